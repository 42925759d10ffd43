/- Statements whose order is open: every order, laid out ahead. -/
import Derived.Test.YtloblhhnlaaajaaDoorX12
set_option linter.unusedVariables false
set_option linter.unusedSimpArgs false
set_option linter.defProp false
namespace Go.Ev
open Go

structure Stp where
 idx : Nat
 eff : Bool
 rd : Bool
 chk : List Nat

section
variable (E : Env)

def mkPlan : Nat → List Pn → Nat → List Nat → Option (List (List Stp))
 | _, [], _, _ => some [[]]
 | 0, _ :: _, _, _ => none
 | n + 1, p :: ps, done, rds => match pickP E done (p :: ps) with
  | some (q, rest) => (mkPlan n rest (withBit done q.1) (bif isRead E q.2.2 then q.1 :: rds else rds)).map fun l => l.map fun o => ⟨q.1, false, isRead E q.2.2, []⟩ :: o
  | none => match pickE E done (p :: ps) with
   | [] => none
   | es => es.foldr (fun x acc => match mkPlan n x.2 (withBit done x.1.1) rds, acc with
    | some l, some r => some ((l.map fun o => ⟨x.1.1, true, false, rds.filter fun k => !(Nat.testBit x.1.2.1 k)⟩ :: o) ++ r)
    | _, _ => none) (some [])

def planOf (ops : List Oper) : Option (List (List Stp)) :=
 match pendL ops (preds ops []) 0 with
 | ps => bif drawOk ops ps then mkPlan E (Nat.succ ops.length) ps 0 [] else none

def IsV (r : R (V × H)) (v : V) : Prop :=
 match r with
 | some [(v', _)] => v' = v
 | _ => False

def Chk (ops : List Oper) (fr : Fr) (h : H) (chk : List Nat) : List (Nat × V) → Prop
 | [] => True
 | (k, v) :: r => (bif chk.contains k then (match nth ops k with
   | some o => IsV (opV E failRec fr h o) v
   | none => False) else True) ∧ Chk ops fr h chk r

def WPlan (ops : List Oper) : List Stp → List (Nat × V) → Fr → H → (Fr → H → Prop) → Prop
 | [], _, fr, h, Q => Q fr h
 | s :: r, rd, fr, h, Q => match nth ops s.idx with
  | none => False
  | some o => match wantedV fr ops o with
   | none => False
   | some false => (match fr.put o.dst un with
    | some fr' => WPlan ops r rd fr' h Q
    | none => False)
   | some true => bif s.eff then WOp E fr h o fun v h' => Chk E ops fr h' s.chk rd ∧ (match fr.put o.dst v with
     | some fr' => WPlan ops r rd fr' h' Q
     | none => False)
    else WOp E fr h o fun v _ => match fr.put o.dst v with
     | some fr' => WPlan ops r (bif s.rd then (s.idx, v) :: rd else rd) fr' h Q
     | none => False
end

mutual
theorem V.beq_refl : ∀ (x : V), V.beq x x = true
 | .bool a => by simp [V.beq]
 | .int k a => by simp [V.beq]
 | .str s => by simp [V.beq]
 | .ptr b o => by simp [V.beq]
 | .gp b o => by simp [V.beq]
 | .nilp => by simp [V.beq]
 | .slice b o n c => by cases c <;> simp [V.beq]
 | .nils => by simp [V.beq]
 | .gsl a n c => by simp [V.beq]
 | .map b => by simp [V.beq]
 | .nilm => by simp [V.beq]
 | .func f a c => by simp [V.beq, V.beqL_refl a, V.beqL_refl c]
 | .yield b => by simp [V.beq]
 | .nilf => by simp [V.beq]
 | .iface t v => by simp [V.beq, V.beq_refl v]
 | .nili => by simp [V.beq]
 | .agg a => by simp [V.beq, V.beqL_refl a]
 | .tuple a => by simp [V.beq, V.beqL_refl a]
 | .sym i => by simp [V.beq]
theorem V.beqL_refl : ∀ (x : List V), V.beqL x x = true
 | [] => by simp [V.beqL]
 | v :: r => by simp [V.beqL, V.beq_refl v, V.beqL_refl r]
end

section
variable {E : Env}

theorem pend_nth : ∀ {ops : List Oper} {ms : List Nat} {i k m : Nat} {o : Oper}, (k, m, o) ∈ pendL ops ms i → i ≤ k ∧ nth ops (k - i) = some o
 | [], ms, i, k, m, o, h => by cases ms <;> simp [pendL] at h
 | x :: r, [], i, k, m, o, h => by simp [pendL] at h
 | x :: r, m0 :: ms, i, k, m, o, h => by
  simp only [pendL, List.mem_cons] at h
  rcases h with h | h
  ·injection h with h1 h2; injection h2 with h2 h3; subst h1 h3
   exact ⟨Nat.le_refl _, by simp [nth]⟩
  ·obtain ⟨h1, h2⟩ := pend_nth h
   refine ⟨by omega, ?_⟩
   rw [show k - i = (k - Nat.succ i) + 1 by omega]
   exact h2

theorem pickP_mem {done : Nat} : ∀ {ps : List Pn} {q : Pn} {rest : List Pn}, pickP E done ps = some (q, rest) → q ∈ ps ∧ (∀ p ∈ rest, p ∈ ps) ∧ rest.length + 1 = ps.length
 | [], q, rest, h => by cases h
 | p :: r, q, rest, h => by
  simp only [pickP] at h
  cases hb : (!(isEff E p.2.2) && within p.2.1 done) with
  | true =>
   rw [hb] at h; simp only [cond_true] at h; injection h with h; injection h with h1 h2; subst h1 h2
   exact ⟨List.mem_cons_self .., fun x hx => List.mem_cons_of_mem _ hx, rfl⟩
  | false =>
   rw [hb] at h; simp only [cond_false] at h
   split at h
   ·cases h
   ·rename_i q' r' hr
    injection h with h; injection h with h1 h2; subst h1 h2
    obtain ⟨a, b, c⟩ := pickP_mem hr
    refine ⟨List.mem_cons_of_mem _ a, fun x hx => ?_, by simp; omega⟩
    rcases List.mem_cons.1 hx with rfl | hx
    ·exact List.mem_cons_self ..
    ·exact List.mem_cons_of_mem _ (b x hx)
theorem pickE_in {done : Nat} : ∀ {ps : List Pn} {x : Pn × List Pn}, x ∈ pickE E done ps → x.1 ∈ ps ∧ (∀ p ∈ x.2, p ∈ ps) ∧ x.2.length + 1 = ps.length
 | [], x, h => by simp [pickE] at h
 | p :: r, x, h => by
  simp only [pickE, List.mem_append, List.mem_map] at h
  rcases h with h | ⟨y, hy, rfl⟩
  ·cases hb : (isEff E p.2.2 && within p.2.1 done) with
   | true =>
    rw [hb] at h; simp only [cond_true, List.mem_singleton] at h; subst h
    exact ⟨List.mem_cons_self .., fun x hx => List.mem_cons_of_mem _ hx, rfl⟩
   | false => rw [hb] at h; simp at h
  ·obtain ⟨a, b, c⟩ := pickE_in hy
   refine ⟨List.mem_cons_of_mem _ a, fun x hx => ?_, by simp; omega⟩
   rcases List.mem_cons.1 hx with rfl | hx
   ·exact List.mem_cons_self ..
   ·exact List.mem_cons_of_mem _ (b x hx)

theorem stands_of {ops : List Oper} {N m : Nat} {fr : Fr} {h : H} {rds : List Nat} : ∀ {rd : List (Nat × Oper × V)}, (∀ x ∈ rd, x.1 ∈ rds ∧ nth ops x.1 = some x.2.1) →
  Chk E ops fr h (rds.filter fun k => !(Nat.testBit m k)) (rd.map fun x => (x.1, x.2.2)) → stands E (ev E N) m fr h rd = true
 | [], _, _ => rfl
 | (k, o, v) :: r, hr, hc => by
  obtain ⟨h1, h2⟩ := hr _ (List.mem_cons_self ..)
  simp only [List.map_cons, Chk] at hc
  simp only [stands, Bool.and_eq_true, Bool.or_eq_true]
  refine ⟨?_, stands_of (fun x hx => hr x (List.mem_cons_of_mem _ hx)) hc.2⟩
  cases hb : Nat.testBit m k with
  | true => exact .inl rfl
  | false =>
   refine .inr ?_
   have hcon : (rds.filter fun k => !(Nat.testBit m k)).contains k = true := by
    simp only [List.contains_eq_mem, decide_eq_true_eq, List.mem_filter]
    exact ⟨h1, by simp [hb]⟩
   have hc1 := hc.1
   rw [hcon] at hc1
   simp only [cond_true, h2] at hc1
   unfold IsV at hc1
   split at hc1
   ·rename_i v' h' ho
    subst hc1
    have := opV_mono (g' := E.globs) (fun _ _ h => h) (failRec_le (ev E N)) ho
    simp only [readOk]
    have this : opV E (ev E N) fr h o = some [(v', h')] := this
    rw [this]
    exact V.beq_refl _
   ·exact hc1.elim

theorem opsD_le {n m : Nat} (hle : n ≤ m) {all : List Oper} {f : Nat} {ps : List Pn} {done : Nat} {rd : List (Nat × Oper × V)} {fr : Fr} {h : H} {l : List (Fr × H)} (k : opsD E (ev E n) all f ps done rd fr h = some l) : opsD E (ev E m) all f ps done rd fr h = some l :=
 opsD_mono (g' := E.globs) (fun _ _ h => h) (ev_le E hle) k

theorem mkPlan_ne : ∀ (f : Nat) (ps : List Pn) (done : Nat) (rds : List Nat), mkPlan E f ps done rds ≠ some []
 | f, [], done, rds => by cases f <;> simp [mkPlan]
 | 0, _ :: _, _, _ => by simp [mkPlan]
 | f + 1, p :: ps, done, rds => by
  intro h
  unfold mkPlan at h
  split at h
  ·obtain ⟨l, hl, h2⟩ := Option.map_eq_some_iff.1 h
   have : l = [] := by simpa using h2
   subst this
   exact mkPlan_ne _ _ _ _ hl
  ·cases hes : pickE E done (p :: ps) with
   | nil => rw [hes] at h; cases h
   | cons x es =>
     rw [hes] at h
     simp only [List.foldr_cons] at h
     split at h
     ·rename_i l r hl hr
      injection h with h
      have := (List.append_eq_nil_iff.1 h).1
      have : l = [] := by simpa using this
      subst this
      exact mkPlan_ne _ _ _ _ hl
     ·cases h

theorem single {fr : Fr} {h : H} {o : Oper} {ih : Rec} {l : List (V × H)} (hc : isEff E o = false) (ho : opV E ih fr h o = some l) : ∃ v h', l = [(v, h')] := by
 have r : ∀ {x : Option V}, rv h x = some l → ∃ v h', l = [(v, h')] := fun hx => by obtain ⟨v, _, rfl⟩ := rv_some hx; exact ⟨v, h, rfl⟩
 have r1' : ∀ {x : Option (V × H)}, r1 x = some l → ∃ v h', l = [(v, h')] := fun hx => by obtain ⟨v, _, rfl⟩ := r1_some hx; exact ⟨v.1, v.2, rfl⟩
 have ro : ∀ {x : V × H}, rone x = some l → ∃ v h', l = [(v, h')] := fun {x} hx => by injection hx with hx; exact ⟨x.1, x.2, hx.symm⟩
 unfold isEff clsOf at hc
 unfold opV at ho
 cases hop : o.op with
 | call c =>
  obtain ⟨callee, args, tys⟩ := c
  rw [hop] at hc ho
  cases callee with
  | builtin b =>
   cases b with
   | len =>
    cases ha : opds fr args.toList with
    | none => simp [ha] at ho
    | some as =>
     simp only [ha, builtinV] at ho
     split at ho
     ·exact r ho
     ·cases ho
   | _ => simp at hc
  | value f => simp at hc
  | invoke a b => simp at hc
 | build t ps =>
  rw [hop] at ho
  simp only at ho
  split at ho
  ·split at ho
   ·rename_i fs _
    cases hb : (!fs.toList.all fun f => (E.tys.get f.type).isSome) with
    | true => simp only [hb, cond_true] at ho; cases ho
    | false => simp only [hb, cond_false] at ho; exact r ho
   ·split at ho
    ·exact r ho
    ·cases ho
   ·cases ho
  ·cases ho
 | _ =>
  rw [hop] at hc ho
  simp only at hc ho
  first
   | (cases ho; done)
   | (cases hc; done)
   | exact r ho
   | exact r1' ho
   | (split at ho <;> first | exact r ho | exact r1' ho | exact ro ho | (cases ho; done) | (split at ho <;> first | exact ro ho | (cases ho; done)))

theorem WOp.sat {fr : Fr} {h : H} {o : Oper} {Q : V → H → Prop} (hc : isEff E o = false) (k : WOp E fr h o Q) : Sat1 (opV E failRec fr h o) Q := by
 unfold WOp at k
 unfold isEff clsOf at hc
 split at k
 ·rename_i c hop
  rw [hop] at hc
  simp only at hc
  split at k
  ·rename_i hcal
   rw [hcal] at hc; simp at hc
  ·exact k
 ·exact k

theorem pickP_eff {done : Nat} : ∀ {ps : List Pn} {q : Pn} {rest : List Pn}, pickP E done ps = some (q, rest) → isEff E q.2.2 = false
 | [], q, rest, h => by cases h
 | p :: r, q, rest, h => by
  simp only [pickP] at h
  cases hb : (!(isEff E p.2.2) && within p.2.1 done) with
  | true =>
   rw [hb] at h; simp only [cond_true] at h; injection h with h; injection h with h1 h2; subst h1 h2
   simp only [Bool.and_eq_true, Bool.not_eq_true'] at hb
   exact hb.1
  | false =>
   rw [hb] at h; simp only [cond_false] at h
   split at h
   ·cases h
   ·rename_i q' r' hr
    injection h with h; injection h with h1 h2; subst h1 h2
    exact pickP_eff hr

theorem WPlan.run {ops : List Oper} : ∀ {f : Nat} {ps : List Pn} {done : Nat} {rds : List Nat} {plans : List (List Stp)} {rd : List (Nat × Oper × V)} {fr : Fr} {h : H} {Q : Fr → H → Prop},
  mkPlan E f ps done rds = some plans → (∀ p ∈ ps, nth ops p.1 = some p.2.2) → (∀ x ∈ rd, x.1 ∈ rds ∧ nth ops x.1 = some x.2.1) →
  (∀ p ∈ plans, WPlan E ops p (rd.map fun x => (x.1, x.2.2)) fr h Q) → ∃ N r, opsD E (ev E N) ops f ps done rd fr h = some r ∧ ∀ y ∈ r, Q y.1 y.2
 | f, [], done, rds, plans, rd, fr, h, Q, hp, _, _, hk => by
  have : plans = [[]] := by cases f <;> (simp [mkPlan] at hp; exact hp.symm)
  subst this
  have hq := hk [] (by simp)
  refine ⟨0, [(fr, h)], by cases f <;> rfl, fun y hy => ?_⟩
  rw [List.mem_singleton.1 hy]; exact hq
 | 0, _ :: _, _, _, _, _, _, _, _, hp, _, _, _ => by cases hp
 | f + 1, p :: ps, done, rds, plans, rd, fr, h, Q, hp, hin, hrd, hk => by
  unfold mkPlan at hp
  unfold opsD
  split at hp
  ·rename_i q rest hq
   obtain ⟨l, hl, rfl⟩ := Option.map_eq_some_iff.1 hp
   obtain ⟨m1, m2, _⟩ := pickP_mem hq
   have hno := hin q m1
   simp only [hq]
   have hk' : ∀ p ∈ l, WPlan E ops (⟨q.1, false, isRead E q.2.2, []⟩ :: p) (rd.map fun x => (x.1, x.2.2)) fr h Q := fun p hp => hk _ (List.mem_map.2 ⟨p, hp, rfl⟩)
   simp only [WPlan, hno] at hk'
   cases hw : wantedV fr ops q.2.2 with
   | none =>
    simp only [hw] at hk'
    rcases l with _ | ⟨p0, l⟩
    ·exact absurd hl (mkPlan_ne _ _ _ _)
    ·exact (hk' p0 (List.mem_cons_self ..)).elim
   | some b =>
    cases b with
    | false =>
     simp only [hw] at hk' ⊢
     cases hput : fr.put q.2.2.dst un with
     | none =>
      simp only [hput] at hk'
      rcases l with _ | ⟨p0, l⟩
      ·exact absurd hl (mkPlan_ne _ _ _ _)
      ·exact (hk' p0 (List.mem_cons_self ..)).elim
     | some fr' =>
      simp only [hput] at hk' ⊢
      refine WPlan.run hl (fun p hp => hin p (m2 p hp)) (fun x hx => ?_) hk'
      obtain ⟨a, b⟩ := hrd x hx
      refine ⟨?_, b⟩
      cases isRead E q.2.2 with
      | true => exact List.mem_cons_of_mem _ a
      | false => exact a
    | true =>
     simp only [hw, cond_false] at hk' ⊢
     have heff := pickP_eff hq
     rcases hl0 : l with _ | ⟨p0, l0⟩
     ·subst hl0; exact absurd hl (mkPlan_ne _ _ _ _)
     ·have h0 := (hk' p0 (by rw [hl0]; exact List.mem_cons_self ..)).sat heff
      cases ho : opV E failRec fr h q.2.2 with
      | none => rw [ho] at h0; exact h0.elim
      | some outs =>
       obtain ⟨v, h', rfl⟩ := single heff ho
       have ho' : ∀ N, opV E (ev E N) fr h q.2.2 = some [(v, h')] := fun N => opV_mono (g' := E.globs) (fun _ _ h => h) (failRec_le (ev E N)) ho
       simp only [ho']
       have hk2 : ∀ p ∈ l, (match fr.put q.2.2.dst v with
        | some fr' => WPlan E ops p (bif isRead E q.2.2 then (q.1, v) :: rd.map (fun x => (x.1, x.2.2)) else rd.map (fun x => (x.1, x.2.2))) fr' h Q
        | none => False) := fun p hp => by
        have := (hk' p hp).sat heff
        rw [ho] at this
        exact this _ (List.mem_singleton.2 rfl)
       cases hput : fr.put q.2.2.dst v with
       | none => simp only [hput] at hk2; exact (hk2 p0 (by rw [hl0]; exact List.mem_cons_self ..)).elim
       | some fr' =>
        simp only [hput] at hk2 ⊢
        refine WPlan.run (rd := bif isRead E q.2.2 then (q.1, q.2.2, v) :: rd else rd) hl (fun p hp => hin p (m2 p hp)) (fun x hx => ?_) (fun p hp => ?_)
        ·cases hr : isRead E q.2.2 with
         | true =>
          rw [hr] at hx
          rcases List.mem_cons.1 hx with rfl | hx
          ·exact ⟨List.mem_cons_self .., hno⟩
          ·obtain ⟨a, b⟩ := hrd x hx; exact ⟨List.mem_cons_of_mem _ a, b⟩
         | false => rw [hr] at hx; exact hrd x hx
        ·have := hk2 p hp
         cases hr : isRead E q.2.2 with
         | true => rw [hr] at this; exact this
         | false => rw [hr] at this; exact this
  ·rename_i hq
   simp only [hq]
   split at hp
   ·cases hp
   ·rename_i es hes
    have hes' : ∀ x ∈ pickE E done (p :: ps), x.1 ∈ p :: ps ∧ (∀ q ∈ x.2, q ∈ p :: ps) ∧ x.2.length + 1 = (p :: ps).length := fun x hx => pickE_in hx
    -- each choice by itself
    have one : ∀ x ∈ pickE E done (p :: ps), ∀ l, mkPlan E f x.2 (withBit done x.1.1) rds = some l →
      (∀ o ∈ l, WPlan E ops (⟨x.1.1, true, false, rds.filter fun k => !(Nat.testBit x.1.2.1 k)⟩ :: o) (rd.map fun x => (x.1, x.2.2)) fr h Q) →
      ∃ N r, (match wantedV fr ops x.1.2.2 with
       | none => none
       | some false => (match fr.put x.1.2.2.dst un with
        | some fr' => opsD E (ev E N) ops f x.2 (withBit done x.1.1) rd fr' h
        | none => none)
       | some true => rbind (opV E (ev E N) fr h x.1.2.2) fun y => bif stands E (ev E N) x.1.2.1 fr y.2 rd then (match fr.put x.1.2.2.dst y.1 with
        | some fr' => opsD E (ev E N) ops f x.2 (withBit done x.1.1) rd fr' y.2
        | none => none) else none) = some r ∧ ∀ y ∈ r, Q y.1 y.2 := by
     intro x hx l hl hk1
     obtain ⟨m1, m2, _⟩ := hes' x hx
     have hno := hin _ m1
     rcases hl0 : l with _ | ⟨p0, l0⟩
     ·subst hl0; exact absurd hl (mkPlan_ne _ _ _ _)
     ·have hk0 := hk1 p0 (by rw [hl0]; exact List.mem_cons_self ..)
      simp only [WPlan, hno] at hk1 hk0
      cases hw : wantedV fr ops x.1.2.2 with
      | none => simp only [hw] at hk0
      | some b =>
       cases b with
       | false =>
        simp only [hw] at hk1 hk0 ⊢
        cases hput : fr.put x.1.2.2.dst un with
        | none => simp only [hput] at hk0
        | some fr' =>
         simp only [hput] at hk1 ⊢
         exact WPlan.run hl (fun p hp => hin p (m2 p hp)) hrd hk1
       | true =>
        simp only [hw, cond_true] at hk1 hk0 ⊢
        obtain ⟨N, outs, ho, _⟩ := hk0.step
        -- what each order says of each outcome
        have all : ∀ o ∈ l, ∀ y ∈ outs, Chk E ops fr y.2 (rds.filter fun k => !(Nat.testBit x.1.2.1 k)) (rd.map fun x => (x.1, x.2.2)) ∧ (match fr.put x.1.2.2.dst y.1 with
          | some fr' => WPlan E ops o (rd.map fun x => (x.1, x.2.2)) fr' y.2 Q
          | none => False) := by
         intro o hoo y hy
         obtain ⟨N2, outs2, ho2, hq2⟩ := (hk1 o hoo).step
         have e1 := opV_le (Nat.le_max_left N N2) ho
         have e2 := opV_le (Nat.le_max_right N N2) ho2
         rw [e1] at e2; injection e2 with e2; subst e2
         exact hq2 y hy
        refine bindW (G := fun N => opV E (ev E N) fr h x.1.2.2) (F := fun N (y : V × H) => bif stands E (ev E N) x.1.2.1 fr y.2 rd then (match fr.put x.1.2.2.dst y.1 with
         | some fr' => opsD E (ev E N) ops f x.2 (withBit done x.1.1) rd fr' y.2
         | none => none) else none) (fun n m r hle => opV_le hle) ?_ ⟨N, outs, ho, fun y hy => ?_⟩
        ·intro n m y r hle hy
         cases hs : stands E (ev E n) x.1.2.1 fr y.2 rd with
         | false => rw [hs] at hy; cases hy
         | true =>
          have hs' : stands E (ev E m) x.1.2.1 fr y.2 rd = true := stands_mono (g' := E.globs) (fun _ _ h => h) (ev_le E hle) hs
          rw [hs] at hy
          rw [hs']
          simp only [cond_true] at hy ⊢
          split at hy
          ·exact opsD_le hle hy
          ·cases hy
        ·have hst : ∀ N, stands E (ev E N) x.1.2.1 fr y.2 rd = true := fun N => stands_of hrd (all p0 (by rw [hl0]; exact List.mem_cons_self ..) y hy).1
         simp only [hst, cond_true]
         cases hput : fr.put x.1.2.2.dst y.1 with
         | none =>
          have := (all p0 (by rw [hl0]; exact List.mem_cons_self ..) y hy).2
          rw [hput] at this; exact this.elim
         | some fr' =>
          simp only
          exact WPlan.run hl (fun p hp => hin p (m2 p hp)) hrd (fun o hoo => by
           have := (all o hoo y hy).2
           rw [hput] at this; exact this)
    have each : ∀ (es : List (Pn × List Pn)) (plans : List (List Stp)), (∀ x ∈ es, x ∈ pickE E done (p :: ps)) →
      es.foldr (fun x acc => match mkPlan E f x.2 (withBit done x.1.1) rds, acc with
       | some l, some r => some ((l.map fun o => Stp.mk x.1.1 true false (rds.filter fun k => !(Nat.testBit x.1.2.1 k)) :: o) ++ r)
       | _, _ => none) (some []) = some plans → (∀ p ∈ plans, WPlan E ops p (rd.map fun x => (x.1, x.2.2)) fr h Q) →
      ∀ x ∈ es, ∃ l, mkPlan E f x.2 (withBit done x.1.1) rds = some l ∧ ∀ o ∈ l, WPlan E ops (⟨x.1.1, true, false, rds.filter fun k => !(Nat.testBit x.1.2.1 k)⟩ :: o) (rd.map fun x => (x.1, x.2.2)) fr h Q := by
     intro es
     induction es with
     | nil => intro plans _ _ _ x hx; cases hx
     | cons e es ih =>
      intro plans hm hf hk x hx
      simp only [List.foldr_cons] at hf
      split at hf
      ·rename_i l r hl hr
       injection hf with hf
       subst hf
       rcases List.mem_cons.1 hx with rfl | hx
       ·exact ⟨l, hl, fun o ho => hk _ (List.mem_append_left _ (List.mem_map.2 ⟨o, ho, rfl⟩))⟩
       ·exact ih r (fun y hy => hm y (List.mem_cons_of_mem _ hy)) hr (fun q hq => hk q (List.mem_append_right _ hq)) x hx
      ·cases hf
    have hall := each _ plans (fun x hx => hx) hp hk
    have hF : ∀ n m (x : Pn × List Pn) r, n ≤ m → (match wantedV fr ops x.1.2.2 with
      | none => none
      | some false => (match fr.put x.1.2.2.dst un with
       | some fr' => opsD E (ev E n) ops f x.2 (withBit done x.1.1) rd fr' h
       | none => none)
      | some true => rbind (opV E (ev E n) fr h x.1.2.2) fun y => bif stands E (ev E n) x.1.2.1 fr y.2 rd then (match fr.put x.1.2.2.dst y.1 with
       | some fr' => opsD E (ev E n) ops f x.2 (withBit done x.1.1) rd fr' y.2
       | none => none) else none) = some r → (match wantedV fr ops x.1.2.2 with
      | none => none
      | some false => (match fr.put x.1.2.2.dst un with
       | some fr' => opsD E (ev E m) ops f x.2 (withBit done x.1.1) rd fr' h
       | none => none)
      | some true => rbind (opV E (ev E m) fr h x.1.2.2) fun y => bif stands E (ev E m) x.1.2.1 fr y.2 rd then (match fr.put x.1.2.2.dst y.1 with
       | some fr' => opsD E (ev E m) ops f x.2 (withBit done x.1.1) rd fr' y.2
       | none => none) else none) = some r := by
     intro n m x r hle hx
     split at hx
     ·cases hx
     ·split at hx
      ·exact opsD_le hle hx
      ·cases hx
     ·refine rbind_mono (fun l hl => opV_le hle hl) (fun y r hy => ?_) hx
      cases hs : stands E (ev E n) x.1.2.1 fr y.2 rd with
      | false => rw [hs] at hy; cases hy
      | true =>
       have hs' : stands E (ev E m) x.1.2.1 fr y.2 rd = true := stands_mono (g' := E.globs) (fun _ _ h => h) (ev_le E hle) hs
       rw [hs] at hy
       rw [hs']
       simp only [cond_true] at hy ⊢
       split at hy
       ·exact opsD_le hle hy
       ·cases hy
    have hG := gather hF (Q := fun y => Q y.1 y.2) (l := pickE E done (p :: ps)) 0 (fun x hx => by
     obtain ⟨l, hl, hkl⟩ := hall x hx
     exact one x hx l hl hkl)
    obtain ⟨N, r, _, n1, n2⟩ := hG
    exact ⟨N, r, n1, n2⟩

theorem WC.draw {id : Nat} {ops : Array Oper} {fr : Fr} {h : H} {Q : Ex → Fr → H → Prop} {plans : List (List Stp)} (hp : planOf E ops.toList = some plans) (k : ∀ p ∈ plans, WPlan E ops.toList p [] fr h fun fr h => Q .normal fr h) : WC E (.region id ops true) fr h Q := by
 unfold planOf at hp
 simp only at hp
 obtain ⟨hd, hp⟩ := bif_some hp
 obtain ⟨N, l, h1, h2⟩ := WPlan.run (rd := []) hp (fun p hp => by
  obtain ⟨_, q⟩ := pend_nth hp
  simpa using q) (fun x hx => by cases hx) k
 refine CStep.wc ?_
 unfold CStep stepCode
 simp only [cond_true]
 refine bindW (G := fun N => drawn E (ev E N) ops.toList fr h) (fun n m r hle hx => drawn_mono (g' := E.globs) (fun _ _ h => h) (ev_le E hle) hx) ?_ ⟨N, l, ?_, fun x hx => ?_⟩
 ·exact fun n m x r hle h => h
 ·unfold drawn
  simp only [hd, cond_true]
  exact h1
 ·exact ⟨0, [(.normal, x.1, x.2)], rfl, fun y hy => by rw [List.mem_singleton.1 hy]; exact h2 x hx⟩

theorem isV_rv {h : H} {u v : V} : IsV (rv h (some u)) v = (u = v) := rfl
theorem isV_r1 {x : V × H} {v : V} : IsV (r1 (some x)) v = (x.1 = v) := rfl
theorem has_nil {k : Nat} : List.contains ([] : List Nat) k = false := rfl
theorem has_cons {a k : Nat} {l : List Nat} : List.contains (a :: l) k = (k == a || l.contains k) := List.contains_cons
section
variable {ih : Rec} {d : Option Nat} {t : Nat} {p : String} {a : Array Edge} {g : Option (Nat × Bool)} {fr : Fr} {h : H}
theorem o_load {ty : Nat} {x : Operand} : opV E ih fr h ⟨d, .load ty x, t, p, a, g⟩ = rv h ((opd fr x).bind fun x => loadP E h ty x) := by
 simp only [opV]
 cases opd fr x with
 | none => rfl
 | some c => cases c <;> rfl
theorem o_bin {op : BinOp} {ty ty' : Nat} {x y : Operand} : opV E ih fr h ⟨d, .binOp op ty x y ty', t, p, a, g⟩ = rv h ((opd fr x).bind fun u => (opd fr y).bind fun v => binV E h (isConst x || isConst y) op ty u v) := by
 simp only [opV]
 cases opd fr x with
 | none => rfl
 | some c => cases opd fr y <;> rfl
theorem o_conv {s e : Nat} {x : Operand} : opV E ih fr h ⟨d, .convert s e x, t, p, a, g⟩ = r1 ((opd fr x).bind fun u => convV E h s e u) := by
 simp only [opV]
 cases opd fr x <;> rfl
theorem o_len {ty : Nat} {x : Operand} : opV E ih fr h ⟨d, .call ⟨.builtin .len, #[x], #[ty]⟩, t, p, a, g⟩ = rv h ((opd fr x).bind fun u => lenB E h ty u) := by
 simp only [opV, opds, builtinV]
 cases opd fr x <;> rfl
end

theorem b_tt : (true == true) = true := rfl
theorem b_tf : (true == false) = false := rfl
theorem b_ft : (false == true) = false := rfl
theorem b_ff : (false == false) = true := rfl

def NextR (E : Env) (all r : List Oper) (fr : Fr) (d : Option Nat) (Q : Fr → H → Prop) (v : V) (h : H) : Prop := match fr.put d v with
 | some fr => WRun E all r fr h Q
 | none => False
theorem WRun_nil {all : List Oper} {fr : Fr} {h : H} {Q : Fr → H → Prop} : WRun E all [] fr h Q = Q fr h := rfl
theorem WRun_cons {all r : List Oper} {o : Oper} {fr : Fr} {h : H} {Q : Fr → H → Prop} : WRun E all (o :: r) fr h Q = (match wantedV fr all o with
 | none => False
 | some false => NextR E all r fr o.dst Q un h
 | some true => WOp E fr h o (NextR E all r fr o.dst Q)) := rfl
theorem NextR_eq {all r : List Oper} {fr : Fr} {d : Option Nat} {Q : Fr → H → Prop} {v : V} {h : H} : NextR E all r fr d Q v h = (match fr.put d v with
 | some fr => WRun E all r fr h Q
 | none => False) := rfl
def PNe (E : Env) (ops : List Oper) (r : List Stp) (chk : List Nat) (rd : List (Nat × V)) (fr : Fr) (d : Option Nat) (Q : Fr → H → Prop) (v : V) (h : H) : Prop :=
 Chk E ops fr h chk rd ∧ (match fr.put d v with
  | some fr' => WPlan E ops r rd fr' h Q
  | none => False)
def PNr (E : Env) (ops : List Oper) (r : List Stp) (b : Bool) (k : Nat) (rd : List (Nat × V)) (fr : Fr) (d : Option Nat) (h : H) (Q : Fr → H → Prop) (v : V) (_ : H) : Prop :=
 match fr.put d v with
 | some fr' => WPlan E ops r (bif b then (k, v) :: rd else rd) fr' h Q
 | none => False
theorem WPlan_nil {ops : List Oper} {rd : List (Nat × V)} {fr : Fr} {h : H} {Q : Fr → H → Prop} : WPlan E ops [] rd fr h Q = Q fr h := rfl
def WPOp (E : Env) (ops : List Oper) (s : Stp) (r : List Stp) (rd : List (Nat × V)) (fr : Fr) (h : H) (Q : Fr → H → Prop) (o : Option Oper) : Prop := match o with
 | none => False
 | some o => match wantedV fr ops o with
  | none => False
  | some false => (match fr.put o.dst un with
   | some fr' => WPlan E ops r rd fr' h Q
   | none => False)
  | some true => bif s.eff then WOp E fr h o (PNe E ops r s.chk rd fr o.dst Q) else WOp E fr h o (PNr E ops r s.rd s.idx rd fr o.dst h Q)
theorem WPlan_cons {ops : List Oper} {s : Stp} {r : List Stp} {rd : List (Nat × V)} {fr : Fr} {h : H} {Q : Fr → H → Prop} : WPlan E ops (s :: r) rd fr h Q = WPOp E ops s r rd fr h Q (nth ops s.idx) := by
 simp only [WPlan, WPOp]
 cases nth ops s.idx <;> rfl
theorem WPOp_some {ops : List Oper} {s : Stp} {r : List Stp} {rd : List (Nat × V)} {fr : Fr} {h : H} {Q : Fr → H → Prop} {o : Oper} : WPOp E ops s r rd fr h Q (some o) = (match wantedV fr ops o with
  | none => False
  | some false => (match fr.put o.dst un with
   | some fr' => WPlan E ops r rd fr' h Q
   | none => False)
  | some true => bif s.eff then WOp E fr h o (PNe E ops r s.chk rd fr o.dst Q) else WOp E fr h o (PNr E ops r s.rd s.idx rd fr o.dst h Q)) := rfl
theorem PNe_eq {ops : List Oper} {r : List Stp} {chk : List Nat} {rd : List (Nat × V)} {fr : Fr} {d : Option Nat} {Q : Fr → H → Prop} {v : V} {h : H} : PNe E ops r chk rd fr d Q v h = (Chk E ops fr h chk rd ∧ (match fr.put d v with
  | some fr' => WPlan E ops r rd fr' h Q
  | none => False)) := rfl
theorem PNr_eq {ops : List Oper} {r : List Stp} {b : Bool} {k : Nat} {rd : List (Nat × V)} {fr : Fr} {d : Option Nat} {Q : Fr → H → Prop} {v : V} {h h' : H} : PNr E ops r b k rd fr d h Q v h' = (match fr.put d v with
 | some fr' => WPlan E ops r (bif b then (k, v) :: rd else rd) fr' h Q
 | none => False) := rfl
end
end Go.Ev
