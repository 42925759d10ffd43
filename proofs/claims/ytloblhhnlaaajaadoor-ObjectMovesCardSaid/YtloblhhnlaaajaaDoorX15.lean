/- A region of many orders whose operations only make new blocks: one proof an operation, whatever the order. -/
import Derived.Test.YtloblhhnlaaajaaDoorX14
set_option linter.unusedVariables false
set_option linter.unusedSimpArgs false
set_option linter.defProp false
set_option linter.defProp false
namespace Go.Ev
open Go

section
variable {E : Env}

def WStp (E : Env) (ops : List Oper) (s : Stp) (rd : List (Nat × V)) (fr : Fr) (h : H) (K : Fr → H → Prop) : Prop := match nth ops s.idx with
 | none => False
 | some o => match wantedV fr ops o with
  | none => False
  | some false => (match fr.put o.dst un with
   | some fr' => K fr' h
   | none => False)
  | some true => bif s.eff then WOp E fr h o fun v h' => Chk E ops fr h' s.chk rd ∧ (match fr.put o.dst v with
    | some fr' => K fr' h'
    | none => False)
   else WOp E fr h o fun v _ => match fr.put o.dst v with
    | some fr' => K fr' h
    | none => False

theorem WStp.plan {ops : List Oper} {s : Stp} {r : List Stp} {rd : List (Nat × V)} {fr : Fr} {h : H} {Q : Fr → H → Prop} (hs : s.rd = false) (k : WStp E ops s rd fr h fun fr h => WPlan E ops r rd fr h Q) : WPlan E ops (s :: r) rd fr h Q := by
 unfold WStp at k
 simp only [WPlan, hs, cond_false]
 exact k
theorem Sat1.mono {r : R (V × H)} {Q Q' : V → H → Prop} (k : Sat1 r Q) (hq : ∀ v h, Q v h → Q' v h) : Sat1 r Q' := by
 unfold Sat1 at *
 split at k
 ·exact fun x hx => hq _ _ (k x hx)
 ·exact k
theorem WOp.mono {fr : Fr} {h : H} {o : Oper} {Q Q' : V → H → Prop} (k : WOp E fr h o Q) (hq : ∀ v h, Q v h → Q' v h) : WOp E fr h o Q' := by
 unfold WOp at *
 split at k
 ·split at k
  ·split at k
   ·exact WF.mono k hq
   ·exact k
  ·exact k.mono hq
 ·exact k.mono hq
theorem WStp.mono {ops : List Oper} {s : Stp} {rd : List (Nat × V)} {fr : Fr} {h : H} {K K' : Fr → H → Prop} (k : WStp E ops s rd fr h K) (hk : ∀ fr h, K fr h → K' fr h) : WStp E ops s rd fr h K' := by
 unfold WStp at *
 split at k
 ·exact k
 ·split at k
  ·exact k
  ·split at k
   ·exact hk _ _ k
   ·exact k
  ·cases hs : s.eff with
   | true =>
    rw [hs] at k
    simp only [cond_true] at k ⊢
    refine k.mono fun v h q => ⟨q.1, ?_⟩
    have := q.2
    split at this
    ·exact hk _ _ this
    ·exact this
   | false =>
    rw [hs] at k
    simp only [cond_false] at k ⊢
    refine k.mono fun v h q => ?_
    split at q
    ·exact hk _ _ q
    ·exact q

def Stp.beq (a b : Stp) : Bool := Nat.beq a.idx b.idx && (a.eff == b.eff && (a.rd == b.rd && a.chk == b.chk))
theorem Stp.beq_eq {a b : Stp} (h : a.beq b = true) : a = b := by
 cases a; cases b
 simp only [Stp.beq, Bool.and_eq_true, beq_iff_eq] at h
 obtain ⟨h1, h2, h3, h4⟩ := h
 have := Nat.eq_of_beq_eq_true h1
 simp_all
def stpsBeq : List Stp → List Stp → Bool
 | [], [] => true
 | a :: r, b :: r' => a.beq b && stpsBeq r r'
 | _, _ => false
theorem stpsBeq_eq : ∀ {a b : List Stp}, stpsBeq a b = true → a = b
 | [], [], _ => rfl
 | a :: r, b :: r', h => by
  simp only [stpsBeq, Bool.and_eq_true] at h
  rw [Stp.beq_eq h.1, stpsBeq_eq h.2]
 | [], _ :: _, h => by cases h
 | _ :: _, [], h => by cases h

abbrev Stps := List (Stp × Nat × List Nat)
def stpOf (s : Stp) : Stps → Option (Nat × List Nat)
 | [] => none
 | x :: r => bif s.beq x.1 then some x.2 else stpOf s r
theorem stpOf_mem {s : Stp} {p : Nat × List Nat} : ∀ {ss : Stps}, stpOf s ss = some p → (s, p) ∈ ss
 | [], h => by cases h
 | x :: r, h => by
  simp only [stpOf] at h
  cases hb : s.beq x.1 with
  | true =>
   rw [hb] at h; simp only [cond_true] at h; injection h with h
   rw [Stp.beq_eq hb, ← h]; exact List.mem_cons_self ..
  | false => rw [hb] at h; exact List.mem_cons_of_mem _ (stpOf_mem h)
theorem memN_mem {x : Nat} : ∀ {l : List Nat}, memN x l = true → x ∈ l
 | [], h => by cases h
 | y :: r, h => by
  simp only [memN] at h
  cases hb : Nat.beq x y with
  | true => rw [Nat.eq_of_beq_eq_true hb]; exact List.mem_cons_self ..
  | false => rw [hb] at h; exact List.mem_cons_of_mem _ (memN_mem h)
theorem mem_memN {x : Nat} : ∀ {l : List Nat}, x ∈ l → memN x l = true
 | [], h => by cases h
 | y :: r, h => by
  simp only [memN]
  by_cases e : x = y
  ·subst e; simp
  ·rw [beq_false e]; exact mem_memN ((List.mem_cons.1 h).resolve_left e)

def okPlan (ss : Stps) (all : List Nat) (tail : List Stp) : List Nat → List Stp → Bool
 | done, p => bif stpsBeq p tail then all.all (fun i => memN i done) else match p with
  | [] => false
  | s :: r => (match stpOf s ss with
   | some x => !s.rd && x.2.all (fun j => memN j done) && !(memN s.idx done) && okPlan ss all tail (s.idx :: done) r
   | none => false)

theorem WPlan.any {ops : List Oper} {ss : Stps} {all : List Nat} {tail : List Stp} {rd : List (Nat × V)} {Inv : List Nat → Fr → H → Prop} {Q : Fr → H → Prop}
  (step : ∀ s d need, (s, d, need) ∈ ss → ∀ done fr h, (∀ j ∈ need, j ∈ done) → s.idx ∉ done → Inv done fr h → WStp E ops s rd fr h (Inv (s.idx :: done)))
  (fin : ∀ done fr h, (∀ i ∈ all, i ∈ done) → Inv done fr h → WPlan E ops tail rd fr h Q) :
  ∀ {p : List Stp} {done : List Nat} {fr : Fr} {h : H}, okPlan ss all tail done p = true → Inv done fr h → WPlan E ops p rd fr h Q := by
 intro p
 induction p with
 | nil =>
  intro done fr h ho hi
  unfold okPlan at ho
  cases hb : stpsBeq [] tail with
  | false => rw [hb] at ho; cases ho
  | true =>
   rw [hb] at ho
   simp only [cond_true, List.all_eq_true] at ho
   rw [stpsBeq_eq hb]
   exact fin done fr h (fun i hi => memN_mem (ho i hi)) hi
 | cons s r ih =>
  intro done fr h ho hi
  unfold okPlan at ho
  cases hb : stpsBeq (s :: r) tail with
  | true =>
   rw [hb] at ho
   simp only [cond_true, List.all_eq_true] at ho
   rw [stpsBeq_eq hb]
   exact fin done fr h (fun i hi => memN_mem (ho i hi)) hi
  | false =>
   rw [hb] at ho
   simp only [cond_false] at ho
   split at ho
   ·rename_i x hx
    simp only [Bool.and_eq_true, Bool.not_eq_true', List.all_eq_true] at ho
    obtain ⟨⟨⟨h1, h2⟩, h3⟩, h4⟩ := ho
    refine WStp.plan h1 ((step s x.1 x.2 (stpOf_mem hx) done fr h (fun j hj => memN_mem (h2 j hj)) (fun hm => by rw [mem_memN hm] at h3; cases h3) hi).mono fun fr h hi => ih h4 hi)
   ·cases ho

def dstN : Stps → List Nat
 | [] => []
 | x :: r => x.2.1 :: dstN r
structure DInv (h0 : H) (ts0 : T V) (nt fn : Nat) (ss : Stps) (P : Nat → V → H → Prop) (done : List Nat) (ts : T V) (h : H) : Prop where
 fix : Fix (· < h0.next) h0 h
 keep : ∀ t, memN t (dstN ss) = false → ts.get t = ts0.get t
 have_ : ∀ s d need, (s, d, need) ∈ ss → s.idx ∈ done → ∃ v, ts.get d = some v ∧ P s.idx v h

def dstsOk : Stps → Bool
 | [] => true
 | x :: r => !(memN x.2.1 (dstN r)) && r.all (fun y => !(Nat.beq x.1.idx y.1.idx)) && dstsOk r
theorem dstsOk_in {s s' : Stp} {d d' : Nat} {l l' : List Nat} : ∀ {ss : Stps}, dstsOk ss = true → (s, d, l) ∈ ss → (s', d', l') ∈ ss → (s, d, l) = (s', d', l') ∨ (d ≠ d' ∧ s.idx ≠ s'.idx)
 | [], _, h, _ => by cases h
 | x :: r, ho, h, h' => by
  simp only [dstsOk, Bool.and_eq_true, Bool.not_eq_true', List.all_eq_true] at ho
  have hd : ∀ {y : Stp × Nat × List Nat} {r : Stps}, y ∈ r → y.2.1 ∈ dstN r := by
   intro y r
   induction r with
   | nil => intro h; cases h
   | cons z r ih =>
    intro h
    rcases List.mem_cons.1 h with rfl | h
    ·exact List.mem_cons_self ..
    ·exact List.mem_cons_of_mem _ (ih h)
  have ne : ∀ {y}, y ∈ r → x.2.1 ≠ y.2.1 ∧ x.1.idx ≠ y.1.idx := fun {y} hy => ⟨fun e => by
    have := mem_memN (hd hy)
    rw [← e] at this
    rw [this] at ho; exact absurd ho.1.1 (by simp), fun e => by
    have := ho.1.2 y hy
    rw [e] at this; simp at this⟩
  rcases List.mem_cons.1 h with e | h1
  ·rcases List.mem_cons.1 h' with e' | h2
   ·exact .inl (e.trans e'.symm)
   ·subst e; have := ne h2; exact .inr this
  ·rcases List.mem_cons.1 h' with e' | h2
   ·subst e'; have := ne h1; exact .inr ⟨this.1.symm, this.2.symm⟩
   ·exact dstsOk_in ho.2 h1 h2

theorem WPlan.fresh {ops : List Oper} {ss : Stps} {all : List Nat} {tail : List Stp} {rd : List (Nat × V)} {Q : Fr → H → Prop} {h0 : H} {ts0 : T V} {nt fn : Nat} {mks : List D} {rnd : Option Nat} {P : Nat → V → H → Prop} (hd : dstsOk ss = true)
  (stable : ∀ s d need, (s, d, need) ∈ ss → ∀ v h h', P s.idx v h → Fix (· < h.next) h h' → P s.idx v h')
  (step : ∀ s d need, (s, d, need) ∈ ss → ∀ ts h, Fix (· < h0.next) h0 h → (∀ t, memN t (dstN ss) = false → ts.get t = ts0.get t) → (∀ s' d' need', (s', d', need') ∈ ss → s'.idx ∈ need → ∃ v, ts.get d' = some v ∧ P s'.idx v h) →
   WStp E ops s rd ⟨ts, nt, mks, fn, rnd⟩ h fun fr' h' => ∃ v, fr' = ⟨ts.set d v, nt, mks, fn, rnd⟩ ∧ Fix (· < h.next) h h' ∧ P s.idx v h')
  (fin : ∀ ts h, Fix (· < h0.next) h0 h → (∀ t, memN t (dstN ss) = false → ts.get t = ts0.get t) → (∀ s d need, (s, d, need) ∈ ss → s.idx ∈ all → ∃ v, ts.get d = some v ∧ P s.idx v h) → WPlan E ops tail rd ⟨ts, nt, mks, fn, rnd⟩ h Q)
  {p : List Stp} (hp : okPlan ss all tail [] p = true) : WPlan E ops p rd ⟨ts0, nt, mks, fn, rnd⟩ h0 Q := by
 have mem_dst : ∀ {ss : Stps} {s : Stp} {d : Nat} {l : List Nat}, (s, d, l) ∈ ss → memN d (dstN ss) = true := by
  intro ss s d l hm
  refine mem_memN ?_
  induction ss with
  | nil => cases hm
  | cons x r ih =>
   rcases List.mem_cons.1 hm with rfl | hm
   ·exact List.mem_cons_self ..
   ·exact List.mem_cons_of_mem _ (ih hm)
 refine WPlan.any (Inv := fun done fr h => ∃ ts, fr = ⟨ts, nt, mks, fn, rnd⟩ ∧ DInv h0 ts0 nt fn ss P done ts h) ?_ ?_ hp ⟨ts0, rfl, Fix.refl _ _, fun _ _ => rfl, fun _ _ _ _ h => by cases h⟩
 ·rintro s d need hm done fr h hneed hnot ⟨ts, rfl, inv⟩
  refine (step s d need hm ts h inv.fix inv.keep fun s' d' need' hm' hi => inv.have_ s' d' need' hm' (hneed _ hi)).mono ?_
  rintro fr' h' ⟨v, rfl, ff, hP⟩
  refine ⟨_, rfl, ⟨inv.fix.trans (ff.sub fun x hx => Nat.lt_of_lt_of_le hx inv.fix.next), fun t ht => ?_, fun s' d' need' hm' hi => ?_⟩⟩
  ·have : t ≠ d := by rintro rfl; rw [mem_dst hm] at ht; cases ht
   rw [T.get_set, if_neg this]; exact inv.keep t ht
  ·rcases dstsOk_in hd hm hm' with e | ⟨e1, e2⟩
   ·injection e with e1 e2; injection e2 with e2 e3; subst e1 e2
    exact ⟨v, by rw [T.get_set, if_pos rfl], hP⟩
   ·obtain ⟨w, w1, w2⟩ := inv.have_ s' d' need' hm' ((List.mem_cons.1 hi).resolve_left e2.symm)
    exact ⟨w, by rw [T.get_set, if_neg e1.symm]; exact w1, stable s' d' need' hm' w h h' w2 ff⟩
 ·rintro done fr h hall ⟨ts, rfl, inv⟩
  exact fin ts h inv.fix inv.keep fun s d need hm hi => inv.have_ s d need hm (hall _ hi)

def behind : List Stp → List Stp → Option (List Stp)
 | [], p => some p
 | _ :: _, [] => none
 | a :: r, b :: p => bif a.beq b then behind r p else none
theorem behind_eq : ∀ {a p q : List Stp}, behind a p = some q → p = a ++ q
 | [], p, q, h => by injection h
 | _ :: _, [], q, h => by cases h
 | a :: r, b :: p, q, h => by
  simp only [behind] at h
  cases hb : a.beq b with
  | true => rw [hb] at h; rw [← Stp.beq_eq hb, behind_eq (show behind r p = some q from h)]; rfl
  | false => rw [hb] at h; cases h
def okPlans (pre : List Stp) (ss : Stps) (all : List Nat) (tail : List Stp) (plans : List (List Stp)) : Bool :=
 plans.all fun p => match behind pre p with
  | some q => okPlan ss all tail [] q
  | none => false
theorem okPlans_mem {pre : List Stp} {ss : Stps} {all : List Nat} {tail : List Stp} {plans : List (List Stp)} (h : okPlans pre ss all tail plans = true) {p : List Stp} (hp : p ∈ plans) : ∃ q, p = pre ++ q ∧ okPlan ss all tail [] q = true := by
 simp only [okPlans, List.all_eq_true] at h
 have := h p hp
 split at this
 ·rename_i q hq; exact ⟨q, behind_eq hq, this⟩
 ·cases this

def okPlanOf (E : Env) (ops : List Oper) (pre : List Stp) (ss : Stps) (all : List Nat) (tail : List Stp) : Bool := match planOf E ops with
 | some ps => okPlans pre ss all tail ps
 | none => false
theorem WC.draw2 {id : Nat} {ops : Array Oper} {fr : Fr} {h : H} {Q : Ex → Fr → H → Prop} {pre : List Stp} {ss : Stps} {all : List Nat} {tail : List Stp} (hp : okPlanOf E ops.toList pre ss all tail = true) (k : ∀ q, okPlan ss all tail [] q = true → WPlan E ops.toList (pre ++ q) [] fr h fun fr h => Q .normal fr h) : WC E (.region id ops true) fr h Q := by
 unfold okPlanOf at hp
 split at hp
 ·rename_i ps hps
  refine WC.draw hps fun p hm => ?_
  obtain ⟨q, rfl, hq⟩ := okPlans_mem hp hm
  exact k q hq
 ·cases hp

def El (h : H) (e : Nat) (s : V) : Prop := ∀ b o n c, s = .slice b o n c → ∃ t m d k, h.t.get b = some (.cells t m d e k)
theorem El.fix {h h' : H} {K : Nat → Prop} {e : Nat} {s : V} (a : El h e s) (hs : In K s) (f : Fix K h h') : El h' e s := fun b o n c q => by
 obtain ⟨t, m, d, k, w⟩ := a b o n c q
 exact ⟨t, m, d, k, by rw [f.same b (hs _ _ _ _ q)]; exact w⟩

theorem Sl.one {h : H} {sz n : Nat} {s : V} {vs : List V} (a : Sl E h sz s n vs) : V.cells s = [s] ∧ V.one s = true := by
 have := a.len
 unfold lenV at this
 split at this <;> first | exact ⟨rfl, rfl⟩ | cases this

theorem sat_app0 {h : H} {t t2 e sz m b : Nat} {x : V} {ws : List V} {i j ei : TI} {Q : V → H → Prop} {tt : T V} {N : Nat} {d : List V} {kk : Nat} (hb : h.t.get b = some (.cells tt N d e kk)) (hlt : b < h.next)
  (ht : E.tys.get t = some i) (hd : i.desc = .slice e) (hj : E.tys.get t2 = some j) (hjd : (∃ e', j.desc = .slice e') ∨ j.desc = .string)
  (he : E.tys.get e = some ei) (hsz : ei.size = sz) (hpos : 0 < sz) (hb0 : 0 < ei.bytes) (hl : lenV x = some m) (hc : srcCells E h sz m x = some ws) (hw : ws.length = m * sz) (h1 : ws.all V.one = true)
  (hsize : m * ei.bytes ≤ 140737488355328)
  (k : ∀ s' h', Buf E h' e sz s' m ws → (∀ b' o k c, s' = .slice b' o k c → (b' = b ∨ b' = h.next) ∧ b' < h'.next) → El h' e s' → Fix (· < h.next) h h' → h'.next ≤ h.next + 1 → Q s' h') : Sat1 (r1 (appendB E h t t2 (.slice b 0 0 (.lit 0)) x)) Q := by
 have happ : appendB E h t t2 (.slice b 0 0 (.lit 0)) x = appendV E h t (.slice b 0 0 (.lit 0)) x := by
  unfold appendB
  rw [hj]
  rcases hjd with ⟨e', q⟩ | q <;> simp only [q]
 rw [happ]
 have hc' : srcCells E h ei.size m x = some ws := by rw [hsz]; exact hc
 have hbs : Nat.blt 0 ei.bytes = true := blt_true hb0
 have hss : Nat.blt 0 ei.size = true := blt_true (by omega)
 have bu : Buf E h e sz (.slice b 0 0 (.lit 0)) 0 [] := .lit hb (by rw [Nat.zero_mul]; rfl)
 cases m with
 | zero =>
  have : ws = [] := by simpa using hw
  subst this
  have e1 : appendV E h t (.slice b 0 0 (.lit 0)) x = some (.slice b 0 0 (.lit 0), h) := by
   have h2 : Nat.ble (0 * ei.bytes) 140737488355328 = true := ble_true (by simp)
   simp only [appendV, ht, hd, he, hl, hc', List.all_nil, Bool.not_true, cond_false, Nat.add_zero, h2, hbs, hss, Bool.and_self, ble_true (Nat.le_refl 0), cond_true, storeL, Option.map_some]
  rw [e1, sat_r1]
  refine k _ _ bu (fun b' o k c e => by injection e with e; subst e; exact ⟨.inl rfl, hlt⟩) (fun b' o k c e => by injection e with e; subst e; exact ⟨_, _, _, _, hb⟩) (Fix.refl _ _) (Nat.le_succ _)
 | succ m =>
  have hlen : ws.length = (m + 1) * sz := hw
  have e1 : appendV E h t (.slice b 0 0 (.lit 0)) x = some (.slice h.next 0 (m + 1) (.opn 0 0), (row h e ws 1).2) := by
   have h2 : Nat.ble ((0 + (m + 1)) * ei.bytes) 140737488355328 = true := ble_true (by rw [Nat.zero_add]; exact hsize)
   have h3 : Nat.ble (0 + (m + 1)) 0 = false := ble_false (by omega)
   have h4 := (Buf.sl bu).cells
   rw [← hsz] at h4
   rw [Nat.zero_add] at h2 h3
   simp only [appendV, ht, hd, he, hl, hc', h1, Bool.not_true, cond_false, Nat.zero_add, h2, hbs, hss, Bool.and_self, h3, h4, grow, row, H.new, List.nil_append]
  rw [e1, sat_r1]
  have := row_cells (cs := ws) (d := [.nilp])
  rw [hlen] at this
  refine k _ _ (.opn (b := h.next) (t := T.putL .lf 0 ws) (d := [.nilp]) (k := 1) (by rw [row_get, if_pos rfl, hlen]) (.inl rfl) this) (fun b' o k c e => by injection e with e; subst e; exact ⟨.inr rfl, Nat.lt_succ_self _⟩) (fun b' o k c e => by injection e with e; subst e; exact ⟨_, _, _, _, by rw [row_get, if_pos rfl]⟩) (row_fix fun _ h => h) (by rw [row_next]; exact Nat.le_refl _)

theorem wop_allocE {h : H} {fr : Fr} {d : Option Nat} {ty t : Nat} {p : String} {a : Array Edge} {g : Option (Nat × Bool)} {Q : V → H → Prop} {i : TI} (ht : E.tys.get ty = some i)
  (k : ∀ h', Has h' h.next i.zero → (∃ t m d k, h'.t.get h.next = some (.cells t m d ty k)) → h'.next = h.next + 1 → Fix (· < h.next) h h' → Q (.ptr h.next 0) h') : WOp E fr h ⟨d, .alloc ty, t, p, a, g⟩ Q := by
 rw [w_alloc]
 unfold allocV
 rw [ht]
 rw [sat_r1]
 exact k _ row_has ⟨_, _, _, _, by rw [row_get, if_pos rfl]⟩ rfl (row_fix fun _ h => h)
theorem opd_glob {fr : Fr} {k : Nat} : opd fr (.global k) = some (.gp k 0) := rfl
theorem opd_nilp {fr : Fr} : opd fr (.const (.pointer none)) = some .nilp := rfl
theorem opd_nilm {fr : Fr} : opd fr (.const (.map none)) = some .nilm := rfl
theorem opd_nilf {fr : Fr} : opd fr (.const .nilFunc) = some .nilf := rfl
theorem opd_nili {fr : Fr} : opd fr (.const .nilIface) = some .nili := rfl
theorem w_arrayAt {d : Option Nat} {t : Nat} {p : String} {a : Array Edge} {g : Option (Nat × Bool)} {fr : Fr} {h : H} {Q : V → H → Prop} {ty : Nat} {x : Operand} : WOp E fr h ⟨d, .sliceToArrayPointer ty x, t, p, a, g⟩ Q = Sat1 (rv h ((opd fr x).bind fun u => arrayAtV E ty u)) Q := by
 simp only [WOp, opV]
 cases opd fr x <;> rfl
end
def wm := And.intro @w_arrayAt (And.intro @opd_glob (And.intro @opd_nilp (And.intro @opd_nilm (And.intro @opd_nilf @opd_nili))))
end Go.Ev

set_option linter.defProp false
namespace Go.Ev
open Go
section
variable {E : Env}
theorem x_then0 {b : Code} {Q : Ex → Fr → H → Prop} {fr : Fr} {h : H} : Then E b Q .normal fr h = WC E b fr h Q := rfl
theorem x_then1 {b : Code} {Q : Ex → Fr → H → Prop} {fr : Fr} {h : H} {id : Nat} : Then E b Q (.exit id) fr h = Q (.exit id) fr h := rfl
theorem x_then2 {b : Code} {Q : Ex → Fr → H → Prop} {fr : Fr} {h : H} : Then E b Q .ret fr h = Q .ret fr h := rfl
theorem x_blk0 {id : Nat} {Q : Ex → Fr → H → Prop} {fr : Fr} {h : H} : Blk id Q .normal fr h = Q .normal fr h := rfl
theorem x_blk1 {id id' : Nat} {Q : Ex → Fr → H → Prop} {fr : Fr} {h : H} : Blk id Q (.exit id') fr h = bif Nat.beq id id' then Q .normal fr h else Q (.exit id') fr h := rfl
theorem x_blk2 {id : Nat} {Q : Ex → Fr → H → Prop} {fr : Fr} {h : H} : Blk id Q .ret fr h = Q .ret fr h := rfl
theorem x_pick {b : Bool} {x y : Option V} : pickV (.bool b) x y = bif b then x else y := rfl
theorem x_c0 {v : Value} : isConst (.const v) = true := rfl
theorem x_c1 {t : Nat} : isConst (.tmp t) = false := rfl
theorem x_c2 {t : Nat} : isConst (.global t) = false := rfl
theorem x_c3 {t : Nat} : isConst (.func t) = false := rfl
theorem x_n0 {b o : Nat} : nilCheckV (.ptr b o) = some (.ptr b o) := rfl
theorem x_n1 {b o : Nat} : nilCheckV (.gp b o) = some (.gp b o) := rfl
theorem x_n2 {f : Nat} {a c : List V} : nilCheckV (.func f a c) = some (.func f a c) := rfl
theorem x_n3 {b : Nat} : nilCheckV (.yield b) = some (.yield b) := rfl
theorem x_n4 {t : Nat} {v : V} : nilCheckV (.iface t v) = some (.iface t v) := rfl
theorem x_ext {vs : List V} {i : Nat} : extractV (.tuple vs) i = nth vs i := rfl
theorem x_nth0 {α : Type} {x : α} {r : List α} : nth (x :: r) 0 = some x := rfl
theorem x_nth1 {α : Type} {x : α} {r : List α} {k : Nat} : nth (x :: r) (k + 1) = nth r k := rfl
theorem x_nth2 {α : Type} {k : Nat} : nth ([] : List α) k = none := rfl
theorem x_want {fr : Fr} {g : Oper} {want : Bool} : wantJ fr (some g) want = (match g.dst with
  | some d => (match fr.ts.get d with
   | some (.bool b) => some (b == want)
   | some (.tuple []) => some false
   | _ => none)
  | none => none) := rfl
end
def wx := And.intro @x_then0 (And.intro @x_then1 (And.intro @x_then2 (And.intro @x_blk0 (And.intro @x_blk1 (And.intro @x_blk2 (And.intro @x_pick (And.intro @x_c0 (And.intro @x_c1 (And.intro @x_c2 (And.intro @x_c3 (And.intro @x_n0 (And.intro @x_n1 (And.intro @x_n2 (And.intro @x_n3 (And.intro @x_n4 (And.intro @x_ext (And.intro @x_nth0 (And.intro @x_nth1 (And.intro @x_nth2 (And.intro @x_want wm))))))))))))))))))))
end Go.Ev
