/- The machine's steps; regions in the text's order. -/
import Derived.Test.YtloblhhnlaaajaaDoorEv18
namespace Go.Ev
open Go

theorem rbindL_some {α β : Type} {f : α → R β} : ∀ {l : List α} {outs : List β}, rbindL f l = some outs → ∀ x ∈ l, ∃ o, f x = some o ∧ ∀ y ∈ o, y ∈ outs
  | [], _, _, x, hx => by cases hx
  | z :: r, outs, h, x, hx => by
    simp only [rbindL] at h
    cases hz : f z with
    | none => simp [hz] at h
    | some a =>
      cases hr : rbindL f r with
      | none => simp [hz, hr] at h
      | some b =>
        simp [hz, hr] at h
        subst h
        rcases List.mem_cons.1 hx with rfl | hx
        · exact ⟨a, hz, fun y hy => List.mem_append_left _ hy⟩
        · obtain ⟨o, h1, h2⟩ := rbindL_some hr x hx
          exact ⟨o, h1, fun y hy => List.mem_append_right _ (h2 y hy)⟩

theorem rbind_some {α β : Type} {r : R α} {f : α → R β} {outs : List β} (h : rbind r f = some outs) : ∃ l, r = some l ∧ ∀ x ∈ l, ∃ o, f x = some o ∧ ∀ y ∈ o, y ∈ outs := by
  cases r with
  | none => cases h
  | some l =>
    refine ⟨l, rfl, ?_⟩
    unfold rbind at h
    split at h
    · cases h
    · rename_i l' e
      injection e with e
      subst e
      split at h
      · rename_i x
        intro y hy
        rw [List.mem_singleton] at hy
        subst hy
        exact ⟨outs, h, fun _ h => h⟩
      · exact rbindL_some h

section moves
variable {P : Program} {b : Fb} {a : Act} {k : List Item} {cs : List Frame} {w : World} {ops : Array Oper}

theorem FrR_eval (x : Operand) (todo : List Item) : (FrR b a todo).eval x = a.eval x := by cases x <;> rfl
theorem FrR_eval' (todo : List Item) : (FrR b a todo).eval = a.eval := funext fun x => FrR_eval x todo

theorem st_skip : step P (lone (FrR b a (.code .skip :: k)) cs w) = .next (lone (FrR b a k) cs w) := step_lone_go (by simp [stepG, stepG.exec, FrR])
theorem st_label {l : Nat} : step P (lone (FrR b a (.code (.label l) :: k)) cs w) = .next (lone (FrR b a k) cs w) := step_lone_go (by simp [stepG, stepG.exec, FrR])
theorem st_inBlock {id : Nat} : step P (lone (FrR b a (.inBlock id :: k)) cs w) = .next (lone (FrR b a k) cs w) := step_lone_go (by simp [stepG, stepG.exec, FrR])
theorem st_inScope {c : Code} : step P (lone (FrR b a (.inScope c :: k)) cs w) = .next (lone (FrR b a k) cs w) := step_lone_go (by simp [stepG, stepG.exec, FrR])
theorem st_seq {x y : Code} : step P (lone (FrR b a (.code (.seq x y) :: k)) cs w) = .next (lone (FrR b a (.code x :: .code y :: k)) cs w) := step_lone_go (by simp [stepG, stepG.exec, FrR])
theorem st_cond {c : Operand} {x y : Code} {t : Bool} (h : a.eval c = .bool t) : step P (lone (FrR b a (.code (.cond c x y) :: k)) cs w) = .next (lone (FrR b a (.code (if t then x else y) :: k)) cs w) :=
  step_lone_go (by
    have := FrR_eval (b := b) (a := a) c (.code (.cond c x y) :: k)
    simp only [FrR] at this
    simp [stepG, stepG.exec, FrR, this, h])
theorem st_block {id : Nat} {c : Code} : step P (lone (FrR b a (.code (.block id c) :: k)) cs w) = .next (lone (FrR b a (.code c :: .inBlock id :: k)) cs w) := step_lone_go (by simp [stepG, stepG.exec, FrR])
theorem st_loop {c : Code} : step P (lone (FrR b a (.code (.loop c) :: k)) cs w) = .next (lone (FrR b a (.code c :: .inLoop c :: k)) cs w) := step_lone_go (by simp [stepG, stepG.exec, FrR])
theorem st_inLoop {c : Code} : step P (lone (FrR b a (.inLoop c :: k)) cs w) = .next (lone (FrR b a (.code c :: .inLoop c :: k)) cs w) := step_lone_go (by simp [stepG, stepG.exec, FrR])
theorem st_scope {c : Code} : step P (lone (FrR b a (.code (.scope c) :: k)) cs w) = .next (lone (FrR b a (.code c :: .inScope c :: k)) cs w) := step_lone_go (by simp [stepG, stepG.exec, FrR])
theorem st_exit {id : Nat} {k' : List Item} (h : exitTo id k = some k') : step P (lone (FrR b a (.code (.exit id) :: k)) cs w) = .next (lone (FrR b a k') cs w) := step_lone_go (by simp [stepG, stepG.exec, FrR, h])
theorem st_region {id : Nat} : step P (lone (FrR b a (.code (.region id ops false) :: k)) cs w) = .next (lone (FrR b a (.inRegion ops (List.range ops.size) :: k)) cs w) := step_lone_go (by simp [stepG, stepG.exec, FrR])
theorem st_region_draw {id : Nat} : step P (lone (FrR b a (.code (.region id ops true) :: k)) cs w) =
    .next (lone (FrR b a (.inRegion ops (Region.schedule (P.follows .mixedOrders) ops (w.tape w.drawn (.order b.fn id))) :: k)) cs w.drew) :=
  step_lone_go (by simp [stepG, stepG.exec, FrR, choose, Sem.run, Question.forced, Question.cut])
theorem st_region_end : step P (lone (FrR b a (.inRegion ops [] :: k)) cs w) = .next (lone (FrR b a k) cs w) := step_lone_go (by simp [stepG, stepG.exec, FrR])

theorem FrR_finish (i : Nat) (rest : List Nat) (v : Value) : (FrR b a (.inRegion ops (i :: rest) :: k)).finish v = FrR b (a.put ((ops[i]?).bind (·.dst)) v) (.inRegion ops rest :: k) := by
  simp only [FrR, Frame.finish]
  cases (ops[i]?).bind (·.dst) <;> rfl

theorem st_op_skip {i : Nat} {rest : List Nat} (h : ((ops[i]?).map (Region.wanted · (yielded ops a.tmps))).getD false = false) :
    step P (lone (FrR b a (.inRegion ops (i :: rest) :: k)) cs w) = .next (lone (FrR b (a.put ((ops[i]?).bind (·.dst)) undef) (.inRegion ops rest :: k)) cs w) := by
  rw [← FrR_finish]
  exact step_lone_go (by
    have h' := h
    simp only [FrR] at *
    simp [stepG, stepG.exec, h'])

theorem stG_op {i : Nat} {rest : List Nat} {o : Oper} (ho : ops[i]? = some o) (hw : Region.wanted o (yielded ops a.tmps) = true) (hd : ∀ c, o.op ≠ .defer c) :
    stepG P true { frame := FrR b a (.inRegion ops (i :: rest) :: k), callers := cs, status := .running, dying := none } w =
      stepG.apply P true (FrR b a (.inRegion ops (i :: rest) :: k)) cs none (execOp a.eval o) w := by
  have he := FrR_eval' (b := b) (a := a) (.inRegion ops (i :: rest) :: k)
  simp only [FrR] at he
  simp only [stepG, stepG.exec, FrR, ho, Option.map_some, hw, Option.getD_some, if_true, stepG.oper, Frame.oper?, he]
  split
  · rename_i l c h1 h2; exact absurd h2 (hd c)
  · rfl

/-- What an operation does, at a frame. -/
theorem does_step {i : Nat} {rest : List Nat} {o : Oper} (ho : ops[i]? = some o) (hw : Region.wanted o (yielded ops a.tmps) = true) (hd : ∀ c, o.op ≠ .defer c) {X : Value} {w' : World} (h : Does P (execOp a.eval o) w X w') :
    Steps P (lone (FrR b a (.inRegion ops (i :: rest) :: k)) cs w) (lone (FrR b (a.put o.dst X) (.inRegion ops rest :: k)) cs w') := by
  have hg := stG_op (P := P) (b := b) (k := k) (cs := cs) (w := w) (rest := rest) ho hw hd
  have hfin : (FrR b a (.inRegion ops (i :: rest) :: k)).finish X = FrR b (a.put o.dst X) (.inRegion ops rest :: k) := by rw [FrR_finish, ho]; rfl
  rcases h with hr | ⟨hr, rfl⟩ | ⟨f, args, w1, hr, hl⟩ | ⟨l, f, tmps, asg, body, w1, hr, hl⟩
  · refine .one (step_lone_go ?_)
    rw [hg, ← hfin]; simp [stepG.apply, hr]
  · refine .one (step_lone_go ?_)
    rw [hg, ← hfin]; simp [stepG.apply, hr]
  · have henter : step P (lone (FrR b a (.inRegion ops (i :: rest) :: k)) cs w) = .next (lone (Frame.enter P f args .normal) (FrR b a (.inRegion ops (i :: rest) :: k) :: cs) w1) :=
      step_lone_go (by rw [hg]; simp [stepG.apply, hr, FrR])
    rw [← hfin]
    exact .head henter (hl _ _)
  · have henter : step P (lone (FrR b a (.inRegion ops (i :: rest) :: k)) cs w) = .next (lone (Frame.round l f tmps asg body .normal) (FrR b a (.inRegion ops (i :: rest) :: k) :: cs) w1) :=
      step_lone_go (by rw [hg]; simp [stepG.apply, hr, FrR])
    rw [← hfin]
    exact .head henter (hl _ _)
end moves

section
variable {P : Program} {E : Env} {ρ : Rho} {μ : Mu} {ih : Rec}

theorem opV_defer {fr : Fr} {h : H} {o : Oper} {outs : List (V × H)} (hv : opV E ih fr h o = some outs) (c : Call) : o.op ≠ .defer c := by
  intro e
  unfold opV at hv
  rw [e] at hv
  cases hv

theorem wanted_sound {fr : Fr} {a : Act} (k : FR ρ μ fr a) {ops : Array Oper} {o : Oper} {r : Bool} (h : wantedV fr ops.toList o = some r) : Region.wanted o (yielded ops a.tmps) = r := by
  unfold wantedV at h
  unfold Region.wanted
  split at h
  · rename_i hg
    injection h with h; subst h
    rw [hg]
  · rename_i j want hg
    rw [hg]
    simp only
    rw [nth_eq] at h
    split at h
    · rename_i g hj
      have hj' : ops[j]? = some g := by rw [← Array.getElem?_toList]; exact hj
      split at h
      · rename_i d hd
        split at h
        · rename_i bb ht
          injection h with h; subst h
          obtain ⟨X, x1, x2⟩ := k.tmps _ _ ht
          simp only [conc] at x1; injection x1 with x1; subst x1
          simp [yielded, hj', hd, x2]
        · rename_i ht
          injection h with h; subst h
          obtain ⟨X, x1, x2⟩ := k.tmps _ _ ht
          simp [conc, concL] at x1; subst x1
          simp [yielded, hj', hd, x2]
        · cases h
      · cases h
    · cases h

theorem FR.put_undef {fr fr' : Fr} {a : Act} {dst : Option Nat} (k : FR ρ μ fr a) (h : fr.put dst un = some fr') : FR ρ μ fr' (a.put dst undef) :=
  k.put h (by simp [un, conc, concL, undef])

theorem opsV_sound (hE : EnvOk P E) (hp : Plain ρ) (ok : RecOk P E ρ ih) {ops : Array Oper} : ∀ (rest : List Oper) (i : Nat), ops.toList.drop i = rest → ∀ (fr : Fr) (h : H) (outs : List (Fr × H)), opsV E ih ops.toList rest fr h = some outs →
    ∀ (μ : Mu) (a : Act) (w : World) (b : Fb), HR E ρ μ h w → FR ρ μ fr a →
    ∃ fr' h', (fr', h') ∈ outs ∧ ∃ μ' a' w', Grows μ w μ' w' ∧ HR E ρ μ' h' w' ∧ FR ρ μ' fr' a' ∧ fr'.fn = fr.fn ∧ fr'.rnd = fr.rnd ∧ fr'.nt = fr.nt ∧
      ∀ k cs, Steps P (lone (FrR b a (.inRegion ops (List.range' i rest.length) :: k)) cs w) (lone (FrR b a' k) cs w')
  | [], i, hd, fr, h, outs, hv, μ, a, w, b, hh, hf => by
    injection hv with hv; subst hv
    exact ⟨fr, h, List.mem_singleton.2 rfl, μ, a, w, Grows.refl _ _, hh, hf, rfl, rfl, rfl, fun _ _ => .one st_region_end⟩
  | o :: r, i, hd, fr, h, outs, hv, μ, a, w, b, hh, hf => by
    have ho : ops[i]? = some o := by
      have : (ops.toList.drop i)[0]? = some o := by rw [hd]; rfl
      simpa using this
    have hd' : ops.toList.drop (i + 1) = r := by
      rw [← List.drop_drop, hd]; rfl
    simp only [List.length_cons, List.range'_succ]
    simp only [opsV] at hv
    split at hv
    · cases hv
    · rename_i hw
      split at hv
      · rename_i fr1 hput
        obtain ⟨fr', h', hm, μ', a', w', g1, g2, g3, g4, g5, g6, g7⟩ := opsV_sound hE hp ok r (i + 1) hd' fr1 h outs hv μ (a.put o.dst undef) w b hh (hf.put_undef hput)
        obtain ⟨p1, p2, p3, p4⟩ := Fr.put_same hput
        refine ⟨fr', h', hm, μ', a', w', g1, g2, g3, g4.trans p3, g5.trans p4, g6.trans p1, fun k cs => .head ?_ (g7 k cs)⟩
        have := st_op_skip (P := P) (b := b) (a := a) (k := k) (cs := cs) (w := w) (ops := ops) (i := i) (rest := List.range' (i + 1) r.length) (by rw [ho]; simpa using wanted_sound hf hw)
        rw [ho] at this
        exact this
      · cases hv
    · rename_i hw
      obtain ⟨l, hl, hcont⟩ := rbind_some hv
      obtain ⟨v, h1, hm, μ1, X, w1, q1, q2, q3, q4⟩ := opV_sound hE hp ok hf hh hl
      obtain ⟨o1, hc, hsub⟩ := hcont _ hm
      simp only at hc
      split at hc
      · rename_i fr1 hput
        obtain ⟨fr', h', hm', μ', a', w', g1, g2, g3, g4, g5, g6, g7⟩ := opsV_sound hE hp ok r (i + 1) hd' fr1 h1 o1 hc μ1 (a.put o.dst X) w1 b q2 ((hf.le q1.le).put hput q3)
        obtain ⟨p1, p2, p3, p4⟩ := Fr.put_same hput
        exact ⟨fr', h', hsub _ hm', μ', a', w', q1.trans g1, g2, g3, g4.trans p3, g5.trans p4, g6.trans p1, fun k cs => (does_step ho (wanted_sound hf hw) (opV_defer hl) q4).trans (g7 k cs)⟩
      · cases hc
end
end Go.Ev
