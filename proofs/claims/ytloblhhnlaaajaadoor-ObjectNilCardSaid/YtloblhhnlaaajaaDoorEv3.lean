/- How the abstract memory stands to the machine's. -/
import Derived.Test.YtloblhhnlaaajaaDoorEv2
import Derived.WalkKit
namespace Go.Ev
open Go

abbrev Mu := Nat → Option (Nat × Nat)
abbrev Rho := Nat → Value

def cslice (x : Nat × Nat) (o n : Nat) : Cp → Option Value
  | .lit c => if n ≤ c then some (.slice (some ⟨x.1, o, none⟩) n c) else none
  | .opn e o' => if n ≤ x.2 - e then some (.slice (some ⟨x.1, if x.2 - e = 0 then o' else o, none⟩) n (x.2 - e)) else none

mutual
def conc (ρ : Rho) (μ : Mu) : V → Option Value
  | .bool b => some (.bool b)
  | .int k n => some (.int k n)
  | .str s => some (.string ⟨s.toArray⟩)
  | .ptr b o => (μ b).map fun x => .pointer (some ⟨x.1, o, none⟩)
  | .gp g o => some (.pointer (some ⟨g, o, none⟩))
  | .nilp => some (.pointer none)
  | .slice b o n c => (μ b).bind fun x => cslice x o n c
  | .nils => some (.slice none 0 0)
  | .map b => (μ b).map fun x => .map (some x.1)
  | .nilm => some (.map none)
  | .func f a c => match concL ρ μ a, concL ρ μ c with
    | some a, some c => some (.func (.func f) a.toArray c.toArray)
    | _, _ => none
  | .yield b => (μ b).map fun x => .func (.yield x.1) #[] #[]
  | .nilf => some .nilFunc
  | .iface t v => match conc ρ μ v with
    | some v => some (.iface t v)
    | none => none
  | .nili => some .nilIface
  | .agg cs => match concL ρ μ cs with
    | some l => some (.agg l.toArray)
    | none => none
  | .tuple vs => match concL ρ μ vs with
    | some l => some (.tuple l.toArray)
    | none => none
  | .sym i => some (ρ i)
def concL (ρ : Rho) (μ : Mu) : List V → Option (List Value)
  | [] => some []
  | v :: r => match conc ρ μ v, concL ρ μ r with
    | some x, some l => some (x :: l)
    | _, _ => none
end

/-- What stands for an opaque value has one cell. -/
def Plain (ρ : Rho) : Prop := ∀ i, (∀ cs, ρ i ≠ .agg cs) ∧ (∀ vs, ρ i ≠ .tuple vs)

def Le (μ μ' : Mu) : Prop := ∀ b x, μ b = some x → μ' b = some x
theorem Le.refl (μ : Mu) : Le μ μ := fun _ _ h => h
theorem Le.trans {a b c : Mu} (h : Le a b) (k : Le b c) : Le a c := fun x y e => k x y (h x y e)

section
variable {ρ : Rho} {μ μ' : Mu}
mutual
theorem conc_le (h : Le μ μ') : ∀ (v : V) (X : Value), conc ρ μ v = some X → conc ρ μ' v = some X
  | .bool _, _, e | .int _ _, _, e | .str _, _, e | .gp _ _, _, e | .nilp, _, e | .nils, _, e | .nilm, _, e | .nilf, _, e | .nili, _, e | .sym _, _, e => by simpa [conc] using e
  | .ptr b o, X, e => by
    simp only [conc] at e ⊢
    obtain ⟨x, hx, rfl⟩ := Option.map_eq_some_iff.1 e
    rw [h _ _ hx]; rfl
  | .slice b o n c, X, e => by
    simp only [conc] at e ⊢
    obtain ⟨x, hx, e⟩ := Option.bind_eq_some_iff.1 e
    rw [h _ _ hx]; exact e
  | .map b, X, e => by
    simp only [conc] at e ⊢
    obtain ⟨x, hx, rfl⟩ := Option.map_eq_some_iff.1 e
    rw [h _ _ hx]; rfl
  | .yield b, X, e => by
    simp only [conc] at e ⊢
    obtain ⟨x, hx, rfl⟩ := Option.map_eq_some_iff.1 e
    rw [h _ _ hx]; rfl
  | .func f a c, X, e => by
    simp only [conc] at e ⊢
    cases ha : concL ρ μ a with
    | none => simp [ha] at e
    | some la =>
      cases hc : concL ρ μ c with
      | none => simp [ha, hc] at e
      | some lc =>
        rw [concL_le h _ _ ha, concL_le h _ _ hc]
        simpa [ha, hc] using e
  | .iface t v, X, e => by
    simp only [conc] at e ⊢
    cases hv : conc ρ μ v with
    | none => simp [hv] at e
    | some x => rw [conc_le h _ _ hv]; simpa [hv] using e
  | .agg cs, X, e => by
    simp only [conc] at e ⊢
    cases hv : concL ρ μ cs with
    | none => simp [hv] at e
    | some x => rw [concL_le h _ _ hv]; simpa [hv] using e
  | .tuple cs, X, e => by
    simp only [conc] at e ⊢
    cases hv : concL ρ μ cs with
    | none => simp [hv] at e
    | some x => rw [concL_le h _ _ hv]; simpa [hv] using e
theorem concL_le (h : Le μ μ') : ∀ (v : List V) (X : List Value), concL ρ μ v = some X → concL ρ μ' v = some X
  | [], X, e => by simpa [concL] using e
  | v :: r, X, e => by
    simp only [concL] at e ⊢
    cases ha : conc ρ μ v with
    | none => simp [ha] at e
    | some la =>
      cases hc : concL ρ μ r with
      | none => simp [ha, hc] at e
      | some lc =>
        rw [conc_le h _ _ ha, concL_le h _ _ hc]
        simpa [ha, hc] using e
end

theorem concL_cons {v : V} {r : List V} {X : List Value} (e : concL ρ μ (v :: r) = some X) : ∃ x l, X = x :: l ∧ conc ρ μ v = some x ∧ concL ρ μ r = some l := by
  simp only [concL] at e
  cases ha : conc ρ μ v with
  | none => simp [ha] at e
  | some la =>
    cases hc : concL ρ μ r with
    | none => simp [ha, hc] at e
    | some lc => simp [ha, hc] at e; exact ⟨la, lc, e.symm, rfl, rfl⟩
theorem concL_mk {v : V} {r : List V} {x : Value} {l : List Value} (h : conc ρ μ v = some x) (k : concL ρ μ r = some l) : concL ρ μ (v :: r) = some (x :: l) := by
  simp [concL, h, k]
theorem concL_length : ∀ {vs : List V} {X : List Value}, concL ρ μ vs = some X → X.length = vs.length
  | [], X, e => by simp [concL] at e; simp [e]
  | v :: r, X, e => by
    obtain ⟨x, l, rfl, _, h⟩ := concL_cons e
    simp [concL_length h]
theorem concL_get : ∀ {vs : List V} {X : List Value}, concL ρ μ vs = some X → ∀ {i : Nat} {v : V}, vs[i]? = some v → ∃ x, X[i]? = some x ∧ conc ρ μ v = some x
  | [], X, e, i, v, hi => by simp at hi
  | v :: r, X, e, i, u, hi => by
    obtain ⟨x, l, rfl, hx, h⟩ := concL_cons e
    cases i with
    | zero => simp at hi; subst hi; exact ⟨x, rfl, hx⟩
    | succ i => simpa using concL_get h (by simpa using hi)
theorem concL_append : ∀ {a b : List V} {X Y : List Value}, concL ρ μ a = some X → concL ρ μ b = some Y → concL ρ μ (a ++ b) = some (X ++ Y)
  | [], b, X, Y, ha, hb => by simp [concL] at ha; subst ha; simpa using hb
  | v :: r, b, X, Y, ha, hb => by
    obtain ⟨x, l, rfl, hx, h⟩ := concL_cons ha
    simpa using concL_mk hx (concL_append h hb)
theorem concL_drop : ∀ {a : List V} {X : List Value} (n : Nat), concL ρ μ a = some X → concL ρ μ (a.drop n) = some (X.drop n)
  | a, X, 0, ha => by simpa using ha
  | [], X, n + 1, ha => by simp [concL] at ha; subst ha; simp [concL]
  | v :: r, X, n + 1, ha => by
    obtain ⟨x, l, rfl, hx, h⟩ := concL_cons ha
    simpa using concL_drop n h
theorem concL_take : ∀ {a : List V} {X : List Value} (n : Nat), concL ρ μ a = some X → concL ρ μ (a.take n) = some (X.take n)
  | a, X, 0, ha => by simp [concL]
  | [], X, n + 1, ha => by simp [concL] at ha; subst ha; simp [concL]
  | v :: r, X, n + 1, ha => by
    obtain ⟨x, l, rfl, hx, h⟩ := concL_cons ha
    simpa using concL_mk hx (concL_take n h)
theorem concL_split : ∀ {a b : List V} {Z : List Value}, concL ρ μ (a ++ b) = some Z → ∃ X Y, Z = X ++ Y ∧ concL ρ μ a = some X ∧ concL ρ μ b = some Y
  | [], b, Z, h => ⟨[], Z, rfl, rfl, h⟩
  | v :: r, b, Z, h => by
    obtain ⟨x, l, rfl, hx, h⟩ := concL_cons h
    obtain ⟨X, Y, rfl, h1, h2⟩ := concL_split h
    exact ⟨x :: X, Y, rfl, concL_mk hx h1, h2⟩

theorem cslice_some {x : Nat × Nat} {o n : Nat} {c : Cp} {X : Value} (h : cslice x o n c = some X) : ∃ a m, X = .slice a n m := by
  cases c with
  | lit c =>
    simp only [cslice] at h
    split at h
    · injection h with h; exact ⟨_, _, h.symm⟩
    · cases h
  | opn e o' =>
    simp only [cslice] at h
    split at h
    · injection h with h; exact ⟨_, _, h.symm⟩
    · cases h

/-- The cells of a value are the cells of what it stands for. -/
theorem conc_cells (hp : Plain ρ) {v : V} {X : Value} (h : conc ρ μ v = some X) : concL ρ μ v.cells = some X.cells.toList := by
  cases v with
  | agg cs =>
    simp only [conc] at h
    cases hc : concL ρ μ cs with
    | none => simp [hc] at h
    | some l => simp [hc] at h; subst h; simp [V.cells, Value.cells, hc]
  | sym i =>
    simp only [conc] at h
    injection h with h
    subst h
    have := (hp i).1
    have e : (ρ i).cells = #[ρ i] := by
      cases hi : ρ i <;> simp [Value.cells]
      exact (this _ hi).elim
    simp [V.cells, concL, conc, e]
  | _ =>
    all_goals
      have hh := h
      simp only [conc] at h
      simp only [V.cells, concL, hh]
      first
        | (injection h with h; subst h; rfl)
        | (obtain ⟨x, hx, rfl⟩ := Option.map_eq_some_iff.1 h; rfl)
        | (obtain ⟨x, hx, h⟩ := Option.bind_eq_some_iff.1 h; obtain ⟨_, _, rfl⟩ := cslice_some h; rfl)
        | (split at h <;> first | (injection h with h; subst h; rfl) | cases h)

/-- A value of one cell stands for a value of one cell. -/
theorem conc_one (hp : Plain ρ) {v : V} {X : Value} (h : conc ρ μ v = some X) (h1 : v.one = true) : (∀ cs, X ≠ .agg cs) ∧ (∀ vs, X ≠ .tuple vs) := by
  refine ⟨fun cs e => ?_, fun vs e => ?_⟩ <;> subst e <;> cases v <;> simp only [conc, V.one] at h h1 <;>
    first
      | (cases h; done)
      | (cases h1; done)
      | (injection h with h; exact (hp _).1 _ h)
      | (injection h with h; exact (hp _).2 _ h)
      | (obtain ⟨x, hx, h⟩ := Option.map_eq_some_iff.1 h; cases h; done)
      | (obtain ⟨x, hx, h⟩ := Option.bind_eq_some_iff.1 h; obtain ⟨_, _, h⟩ := cslice_some h; cases h)
      | (split at h <;> cases h)

theorem ofValue0_conc {x : Value} {v : V} (h : ofValue0 x = some v) : conc ρ μ v = some x := by
  unfold ofValue0 at h
  split at h <;> first | (injection h with h; subst h; simp [conc]) | cases h
theorem mapM0_conc : ∀ {l : List Value} {vs : List V}, l.mapM ofValue0 = some vs → concL ρ μ vs = some l
  | [], vs, h => by simp at h; subst h; simp [concL]
  | x :: r, vs, h => by
    rw [List.mapM_cons] at h
    cases hx : ofValue0 x with
    | none => simp [hx] at h
    | some v =>
      cases hr : r.mapM ofValue0 with
      | none => simp [hx, hr] at h
      | some l =>
        simp [hx, hr] at h
        subst h
        exact concL_mk (ofValue0_conc hx) (mapM0_conc hr)
theorem ofValue_conc {x : Value} {v : V} (h : ofValue x = some v) : conc ρ μ v = some x := by
  unfold ofValue at h
  split at h
  · obtain ⟨l, hl, rfl⟩ := Option.map_eq_some_iff.1 h
    simp [conc, mapM0_conc hl]
  · obtain ⟨l, hl, rfl⟩ := Option.map_eq_some_iff.1 h
    simp [conc, mapM0_conc hl]
  · obtain ⟨l, hl, rfl⟩ := Option.map_eq_some_iff.1 h
    simp [conc, ofValue0_conc hl]
  · exact ofValue0_conc h
end
end Go.Ev
