/- What an operation does, by the evaluator's word. -/
import Derived.Test.YtloblhhnlaaajaaDoorEv16
import Derived.Control
namespace Go.Ev
open Go

/-- A frame that is entered leaves with X. -/
def Leaves (P : Program) (fr : Frame) (w : World) (X : Value) (w' : World) : Prop := ∀ (c : Frame) (cs : List Frame), Steps P (lone fr (c :: cs) w) (lone (c.finish X) cs w')

def Does (P : Program) (s : Sem Next) (w : World) (X : Value) (w' : World) : Prop :=
  s.run P w = .ok (.value X) w' ∨ (s.run P w = .ok .skip w' ∧ X = undef) ∨
  (∃ f args w1, s.run P w = .ok (.enter f args) w1 ∧ Leaves P (Frame.enter P f args .normal) w1 X w') ∨
  (∃ l f tmps asg body w1, s.run P w = .ok (.round l f tmps asg body) w1 ∧ Leaves P (Frame.round l f tmps asg body .normal) w1 X w')

theorem Does.of_eq {P : Program} {s s' : Sem Next} {w : World} {X : Value} {w' : World} (h : Does P s w X w') (e : s'.run P w = s.run P w) : Does P s' w X w' := by
  rcases h with h | ⟨h, hx⟩ | ⟨f, args, w1, h, k⟩ | ⟨l, f, tmps, asg, body, w1, h, k⟩
  · exact .inl (by rw [e]; exact h)
  · exact .inr (.inl ⟨by rw [e]; exact h, hx⟩)
  · exact .inr (.inr (.inl ⟨f, args, w1, by rw [e]; exact h, k⟩))
  · exact .inr (.inr (.inr ⟨l, f, tmps, asg, body, w1, by rw [e]; exact h, k⟩))

section
variable (P : Program) (E : Env) (ρ : Rho)

/-- One of the outcomes comes to be. -/
def Res (μ : Mu) (w : World) (s : Sem Next) (outs : List (V × H)) : Prop :=
  ∃ v h', (v, h') ∈ outs ∧ ∃ μ' X w', Grows μ w μ' w' ∧ HR E ρ μ' h' w' ∧ conc ρ μ' v = some X ∧ Does P s w X w'
end

/-- The frames that are walked. -/
structure Fb where
  fn : FuncId
  kind : CallKind
  roundOf : Option Nat
def FrR (b : Fb) (a : Act) (todo : List Item) : Frame := { fn := b.fn, tmps := a.tmps, todo, defers := a.defers, mode := .run, kind := b.kind, roundOf := b.roundOf }

def Arr (P : Program) (m : Machine) (b : Fb) (k : List Item) (cs : List Frame) : Ex → Act → World → Prop
  | .normal, a, w => Steps P m (lone (FrR b a k) cs w)
  | .exit id, a, w => ∃ k2, exitTo id k2 = exitTo id k ∧ Steps P m (lone (FrR b a (.code (.exit id) :: k2)) cs w)
  | .ret, a, w => ∃ k2, Steps P m (lone (FrR b a (.code .ret :: k2)) cs w)

/-- What a frame is, to the evaluator. -/
def Ctx (μ : Mu) (fr : Fr) (b : Fb) : Prop :=
  b.fn = fr.fn ∧ (match fr.rnd with
    | none => b.roundOf = none
    | some l => ∃ y, μ l = some y ∧ b.roundOf = some y.1)

/-- The evaluator's word holds. -/
structure RecOk (P : Program) (E : Env) (ρ : Rho) (ih : Rec) : Prop where
  call : ∀ f args h outs, ih.call f args h = some outs → ∀ μ w A, HR E ρ μ h w → concL ρ μ args = some A → Res P E ρ μ w (callFunc f A.toArray) outs
  yield : ∀ l args h outs, ih.yield l args h = some outs → ∀ μ w A y, HR E ρ μ h w → μ l = some y → concL ρ μ args = some A → Res P E ρ μ w (Instr.yield y.1 A.toArray) outs
  code : ∀ c fr h outs, ih.code c fr h = some outs → ∀ μ a w b, HR E ρ μ h w → FR ρ μ fr a → Ctx μ fr b →
    ∃ e fr' h', (e, fr', h') ∈ outs ∧ ∃ μ' a' w', Grows μ w μ' w' ∧ HR E ρ μ' h' w' ∧ FR ρ μ' fr' a' ∧ fr'.fn = fr.fn ∧ fr'.rnd = fr.rnd ∧ fr'.nt = fr.nt ∧
      ∀ k cs, Arr P (lone (FrR b a (.code c :: k)) cs w) b k cs e a' w'

section
variable {P : Program} {E : Env} {ρ : Rho} {μ : Mu}

theorem Res.of_Rs {w : World} {s : Sem Value} {v : V} {h' : H} (h : Rs P E ρ μ w s v h') {t : Sem Next} (ht : ∀ X w', s.run P w = .ok X w' → t.run P w = .ok (.value X) w') : Res P E ρ μ w t [(v, h')] := by
  obtain ⟨μ', X, w', g1, g2, g3, g4⟩ := h
  exact ⟨v, h', List.mem_singleton.2 rfl, μ', X, w', g1, g2, g3, .inl (ht _ _ g4)⟩

theorem Res.of_Ru {w : World} {s : Sem Unit} {h' : H} (h : Ru P E ρ μ w s h') {t : Sem Next} (ht : ∀ w', s.run P w = .ok () w' → t.run P w = .ok .skip w') : Res P E ρ μ w t [(un, h')] := by
  obtain ⟨μ', w', g1, g2, g3⟩ := h
  exact ⟨un, h', List.mem_singleton.2 rfl, μ', undef, w', g1, g2, by simp [un, conc, concL, undef], .inr (.inl ⟨ht _ g3, rfl⟩)⟩

theorem Res.of_val {h : H} {w : World} (hh : HR E ρ μ h w) {v : V} {X : Value} (hx : conc ρ μ v = some X) {t : Sem Next} (ht : t.run P w = .ok (.value X) w) : Res P E ρ μ w t [(v, h)] :=
  ⟨v, h, List.mem_singleton.2 rfl, μ, X, w, Grows.refl _ _, hh, hx, .inl ht⟩

theorem Res.of_eq {w : World} {s s' : Sem Next} {outs : List (V × H)} (h : Res P E ρ μ w s outs) (e : s'.run P w = s.run P w) : Res P E ρ μ w s' outs := by
  obtain ⟨v, h', hm, μ', X, w', g1, g2, g3, g4⟩ := h
  exact ⟨v, h', hm, μ', X, w', g1, g2, g3, g4.of_eq e⟩

theorem rv_some {h : H} {x : Option V} {outs : List (V × H)} (e : rv h x = some outs) : ∃ v, x = some v ∧ outs = [(v, h)] := by
  cases x with
  | none => cases e
  | some v => injection e with e; exact ⟨v, rfl, e.symm⟩
theorem rh_some {x : Option H} {outs : List (V × H)} (e : rh x = some outs) : ∃ h, x = some h ∧ outs = [(un, h)] := by
  cases x with
  | none => cases e
  | some v => injection e with e; exact ⟨v, rfl, e.symm⟩
theorem r1_some {x : Option (V × H)} {outs : List (V × H)} (e : r1 x = some outs) : ∃ v, x = some v ∧ outs = [v] := by
  cases x with
  | none => cases e
  | some v => injection e with e; exact ⟨v, rfl, e.symm⟩
theorem rone_some {α : Type} {x : α} {outs : List α} (e : rone x = some outs) : outs = [x] := by
  injection e with e; exact e.symm

theorem opdO_sound {fr : Fr} {a : Act} (k : FR ρ μ fr a) {x : Option Operand} {v : Option V} (h : opdO fr x = some v) : CO ρ μ v (x.map a.eval) := by
  cases x with
  | none => simp [opdO] at h; subst h; trivial
  | some x =>
    simp only [opdO] at h
    obtain ⟨u, hu, rfl⟩ := Option.map_eq_some_iff.1 h
    obtain ⟨X, h1, h2⟩ := opd_sound k hu
    simpa [CO, h2] using h1
end
end Go.Ev
