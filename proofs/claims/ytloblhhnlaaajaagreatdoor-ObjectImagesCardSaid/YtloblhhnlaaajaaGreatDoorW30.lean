/- Walks: sameImage. Printed by genr11.py. -/
import Derived.Test.YtloblhhnlaaajaaGreatDoorW15
import Derived.Test.YtloblhhnlaaajaaGreatDoorW23
import Derived.Test.YtloblhhnlaaajaaGreatDoorW28
import Derived.Test.YtloblhhnlaaajaaGreatDoorW29
import Derived.Test.YtloblhhnlaaajaaGreatDoorW14
set_option linter.unusedVariables false
set_option linter.unusedSimpArgs false
set_option linter.defProp false
set_option linter.unusedSimpArgs false
namespace Go.Proofs.OP
open Go Go.Ev
open Go.Proofs
open Nat (reduceLT reduceEqDiff)
variable {g : T (List V)}

instance : DecidableEq ExpD := fun a b => if h : a.name = b.name ∧ a.addr = b.addr then isTrue (by cases a; cases b; simp at h; simp [h]) else isFalse (by rintro rfl; simp at h)
instance : DecidableEq SlotD := fun a b => if h : a.name = b.name ∧ a.addr = b.addr ∧ a.bound = b.bound then isTrue (by cases a; cases b; simp at h; simp [h]) else isFalse (by rintro rfl; simp at h)
theorem and2 {p q : Prop} [Decidable p] [Decidable q] : (match (some (decide p) : Option Bool) with
    | some true => (match (some (decide q) : Option Bool) with
      | some true => some true
      | some false => some false
      | none => none)
    | some false => some false
    | none => none) = some (decide (p ∧ q)) := by
  by_cases p <;> by_cases q <;> simp [*]
theorem and3 {p q r : Prop} [Decidable p] [Decidable q] [Decidable r] : (match (some (decide p) : Option Bool) with
    | some true => (match (some (decide q) : Option Bool) with
      | some true => (match (some (decide r) : Option Bool) with
        | some true => some true
        | some false => some false
        | none => none)
      | some false => some false
      | none => none)
    | some false => some false
    | none => none) = some (decide (p ∧ q ∧ r)) := by
  by_cases p <;> by_cases q <;> by_cases r <;> simp [*]
theorem neq137 {h : H} {c : Bool} {a b : ExpD} : binV (E g) h c .neq 137 (.agg (expV a)) (.agg (expV b)) = some (.bool (decide (a ≠ b))) := by
  have : eqV (E g) h 137 (.agg (expV a)) (.agg (expV b)) = some (decide (a.name = b.name ∧ a.addr = b.addr)) := by
    simp only [eqV, ty137, E_eqs, show es.contains 137 = true from rfl, cond_true]
    simp only [eqFlds, partV, ty9, ty2, TI.agg, cond_false, expV, nth, i64, eqT_str, eqT_i2, show (("Name" : String) == "_") = false from rfl, show (("Address" : String) == "_") = false from rfl]
    exact and2
  simp only [binV, this, Option.map_some]
  congr 2
  have e : (a.name = b.name ∧ a.addr = b.addr) ↔ a = b := ⟨fun h => by cases a; cases b; simp at h; simp [h], by rintro rfl; simp⟩
  by_cases h : a = b
  · subst h; simp
  · simp [h, e]
theorem neq138 {h : H} {c : Bool} {a b : SlotD} : binV (E g) h c .neq 138 (.agg (slotV a)) (.agg (slotV b)) = some (.bool (decide (a ≠ b))) := by
  have : eqV (E g) h 138 (.agg (slotV a)) (.agg (slotV b)) = some (decide (a.name = b.name ∧ a.addr = b.addr ∧ a.bound = b.bound)) := by
    simp only [eqV, ty138, E_eqs, show es.contains 138 = true from rfl, cond_true]
    simp only [eqFlds, partV, ty9, ty2, TI.agg, cond_false, slotV, nth, i64, eqT_str, eqT_i2, show (("Name" : String) == "_") = false from rfl, show (("Address" : String) == "_") = false from rfl, show (("Bound" : String) == "_") = false from rfl]
    exact and3
  simp only [binV, this, Option.map_some]
  congr 2
  have e : (a.name = b.name ∧ a.addr = b.addr ∧ a.bound = b.bound) ↔ a = b := ⟨fun h => by cases a; cases b; simp at h; simp [h], by rintro rfl; simp⟩
  by_cases h : a = b
  · subst h; simp
  · simp [h, e]
theorem eq_of_partsI {a b : ImgD} (h1 : a.base = b.base) (h2 : a.bytes = b.bytes) (h3 : a.code = b.code) (h4 : a.entry = b.entry) (h5 : a.needs = b.needs) (h6 : a.exps = b.exps) (h7 : a.slots = b.slots) : a = b := by
  cases a; cases b; simp at *; simp [*]
set_option maxRecDepth 100000 in
set_option maxHeartbeats 8000000 in
theorem sameI_ok {h : H} {c1 c2 : Ic} {o1 o2 : ImgD} (ob1 : Im g h (· < h.next) c1 o1) (ob2 : Im g h (· < h.next) c2 o2) (fit1 : FitsI o1) (fit2 : FitsI o2) :
    WF (E g) 22 [.agg (c1.cells o1), .agg (c2.cells o2)] h fun v h' => (∃ r, v = .bool r ∧ (r = true ↔ o1 = o2)) ∧ Kept h h' := by
  have fs := fit1.exps
  have fr := fit1.slots
  have fs2 := fit2.exps
  have fr2 := fit2.slots
  have fn1 := fit1.needs
  have fn2 := fit2.needs
  refine WF.enter fn22 rfl ?_
  ((repeat refine WC.seq ?_); refine WC.run ?_)
  (try simp only [wk, wl, wx, reduceLT, reduceEqDiff, Nat.reduceBEq, reduceIte])
  refine wop_box (v := .agg (c1.cells o1)) (by (try simp only [wk, wl, wx, reduceLT, reduceEqDiff, Nat.reduceBEq, reduceIte])) ?_
  intro h1 b1 n1 f1
  (try simp only [wk, wl, wx, reduceLT, reduceEqDiff, Nat.reduceBEq, reduceIte])
  have b1 : Has h1 h.next [i64 o1.base, c1.bytes, i64 o1.code, i64 o1.entry, c1.exps, c1.slots, c1.needs] := b1
  refine wop_box (v := .agg (c2.cells o2)) (by (try simp only [wk, wl, wx, reduceLT, reduceEqDiff, Nat.reduceBEq, reduceIte])) ?_
  intro h2 b2 n2 f2
  (try simp only [wk, wl, wx, reduceLT, reduceEqDiff, Nat.reduceBEq, reduceIte])
  have b2 : Has h2 h1.next [i64 o2.base, c2.bytes, i64 o2.code, i64 o2.entry, c2.exps, c2.slots, c2.needs] := b2
  have a2 := b1.fix f2 (by omega)
  have F2 : Kept h h2 := f1.trans (f2.sub fun b hb => by omega)
  have ob1 := (ob1.fix F2 (fun _ h => h)).up (K' := (· < h2.next)) (fun _ h => by omega)
  have ob2 := (ob2.fix F2 (fun _ h => h)).up (K' := (· < h2.next)) (fun _ h => by omega)
  ((repeat refine WC.seq ?_); refine WC.run ?_)
  rcases Bool.eq_false_or_eq_true ((o1.base != o2.base)) with k1 | k1
  · (try simp only [wk, wl, wx, reduceLT, reduceEqDiff, Nat.reduceBEq, reduceIte, un, i64, fa56_0, fa56_1, fa56_2, fa56_3, fa50_0, fa50_1, fa50_2, fa50_3, fa56_6, fa50_6, Nat.zero_add, a2.at ty2 rfl, a2.at ty22 rfl, a2.at ty25 rfl, b2.at ty2 rfl, b2.at ty22 rfl, b2.at ty25 rfl, conv_str ob1.bytes, conv_str ob2.bytes, bin_sneq, k1])
    (repeat refine WC.seq ?_)
    refine WC.cond (b := true) (by (try simp only [wk, wl, wx, reduceLT, reduceEqDiff, Nat.reduceBEq, reduceIte]); (try simp); (try omega)) ?_
    ((repeat refine WC.seq ?_); refine WC.run ?_)
    (try simp only [wk, wl, wx, reduceLT, reduceEqDiff, Nat.reduceBEq, reduceIte])
    refine WC.ret ?_
    (try simp only [wk, wl, wx, reduceLT, reduceEqDiff, Nat.reduceBEq, reduceIte])
    exact ⟨⟨false, rfl, by constructor <;> (intro q; first | (cases q; done) | (subst q; simp at *; done) | (subst q; simp_all; done))⟩, F2⟩
  rcases Bool.eq_false_or_eq_true (!(o1.bytes == o2.bytes)) with k2 | k2
  · (try simp only [wk, wl, wx, reduceLT, reduceEqDiff, Nat.reduceBEq, reduceIte, un, i64, fa56_0, fa56_1, fa56_2, fa56_3, fa50_0, fa50_1, fa50_2, fa50_3, fa56_6, fa50_6, Nat.zero_add, a2.at ty2 rfl, a2.at ty22 rfl, a2.at ty25 rfl, b2.at ty2 rfl, b2.at ty22 rfl, b2.at ty25 rfl, conv_str ob1.bytes, conv_str ob2.bytes, bin_sneq, k1, k2])
    (repeat refine WC.seq ?_)
    refine WC.cond (b := true) (by (try simp only [wk, wl, wx, reduceLT, reduceEqDiff, Nat.reduceBEq, reduceIte]); (try simp); (try omega)) ?_
    ((repeat refine WC.seq ?_); refine WC.run ?_)
    (try simp only [wk, wl, wx, reduceLT, reduceEqDiff, Nat.reduceBEq, reduceIte])
    refine WC.ret ?_
    (try simp only [wk, wl, wx, reduceLT, reduceEqDiff, Nat.reduceBEq, reduceIte])
    exact ⟨⟨false, rfl, by constructor <;> (intro q; first | (cases q; done) | (subst q; simp at *; done) | (subst q; simp_all; done))⟩, F2⟩
  rcases Bool.eq_false_or_eq_true ((o1.code != o2.code)) with k3 | k3
  · (try simp only [wk, wl, wx, reduceLT, reduceEqDiff, Nat.reduceBEq, reduceIte, un, i64, fa56_0, fa56_1, fa56_2, fa56_3, fa50_0, fa50_1, fa50_2, fa50_3, fa56_6, fa50_6, Nat.zero_add, a2.at ty2 rfl, a2.at ty22 rfl, a2.at ty25 rfl, b2.at ty2 rfl, b2.at ty22 rfl, b2.at ty25 rfl, conv_str ob1.bytes, conv_str ob2.bytes, bin_sneq, k1, k2, k3])
    (repeat refine WC.seq ?_)
    refine WC.cond (b := true) (by (try simp only [wk, wl, wx, reduceLT, reduceEqDiff, Nat.reduceBEq, reduceIte]); (try simp); (try omega)) ?_
    ((repeat refine WC.seq ?_); refine WC.run ?_)
    (try simp only [wk, wl, wx, reduceLT, reduceEqDiff, Nat.reduceBEq, reduceIte])
    refine WC.ret ?_
    (try simp only [wk, wl, wx, reduceLT, reduceEqDiff, Nat.reduceBEq, reduceIte])
    exact ⟨⟨false, rfl, by constructor <;> (intro q; first | (cases q; done) | (subst q; simp at *; done) | (subst q; simp_all; done))⟩, F2⟩
  rcases Bool.eq_false_or_eq_true ((o1.entry != o2.entry)) with k4 | k4
  · (try simp only [wk, wl, wx, reduceLT, reduceEqDiff, Nat.reduceBEq, reduceIte, un, i64, fa56_0, fa56_1, fa56_2, fa56_3, fa50_0, fa50_1, fa50_2, fa50_3, fa56_6, fa50_6, Nat.zero_add, a2.at ty2 rfl, a2.at ty22 rfl, a2.at ty25 rfl, b2.at ty2 rfl, b2.at ty22 rfl, b2.at ty25 rfl, conv_str ob1.bytes, conv_str ob2.bytes, bin_sneq, k1, k2, k3, k4])
    (repeat refine WC.seq ?_)
    refine WC.cond (b := true) (by (try simp only [wk, wl, wx, reduceLT, reduceEqDiff, Nat.reduceBEq, reduceIte]); (try simp); (try omega)) ?_
    ((repeat refine WC.seq ?_); refine WC.run ?_)
    (try simp only [wk, wl, wx, reduceLT, reduceEqDiff, Nat.reduceBEq, reduceIte])
    refine WC.ret ?_
    (try simp only [wk, wl, wx, reduceLT, reduceEqDiff, Nat.reduceBEq, reduceIte])
    exact ⟨⟨false, rfl, by constructor <;> (intro q; first | (cases q; done) | (subst q; simp at *; done) | (subst q; simp_all; done))⟩, F2⟩
  (try simp only [wk, wl, wx, reduceLT, reduceEqDiff, Nat.reduceBEq, reduceIte, un, i64, fa56_0, fa56_1, fa56_2, fa56_3, fa50_0, fa50_1, fa50_2, fa50_3, fa56_6, fa50_6, Nat.zero_add, a2.at ty2 rfl, a2.at ty22 rfl, a2.at ty25 rfl, b2.at ty2 rfl, b2.at ty22 rfl, b2.at ty25 rfl, conv_str ob1.bytes, conv_str ob2.bytes, bin_sneq, k1, k2, k3, k4])
  refine (names_ok ob1.needs ob2.needs (by omega) (by omega)).mono fun v h' ⟨e, e'⟩ => ?_
  subst e e'
  rcases Bool.eq_false_or_eq_true (!decide (o1.needs = o2.needs)) with k5 | k5
  · (try simp only [wk, wl, wx, reduceLT, reduceEqDiff, Nat.reduceBEq, reduceIte, un, fa56_4, fa56_5, fa50_4, fa50_5, Nat.zero_add, a2.at ty53 rfl, a2.at ty54 rfl, b2.at ty47 rfl, b2.at ty48 rfl, Sl.lenB ob1.exps ty53 rfl, Sl.lenB ob1.slots ty54 rfl, Sl.lenB ob2.exps ty47 rfl, Sl.lenB ob2.slots ty48 rfl, k5])
    (repeat refine WC.seq ?_)
    refine WC.cond (b := true) (by (try simp only [wk, wl, wx, reduceLT, reduceEqDiff, Nat.reduceBEq, reduceIte]); (try simp); (try omega)) ?_
    ((repeat refine WC.seq ?_); refine WC.run ?_)
    (try simp only [wk, wl, wx, reduceLT, reduceEqDiff, Nat.reduceBEq, reduceIte])
    refine WC.ret ?_
    (try simp only [wk, wl, wx, reduceLT, reduceEqDiff, Nat.reduceBEq, reduceIte])
    exact ⟨⟨false, rfl, by constructor <;> (intro q; first | (cases q; done) | (subst q; simp at *; done) | (subst q; simp_all; done))⟩, F2⟩
  rcases Bool.eq_false_or_eq_true (((o1.exps.length : Int) != (o2.exps.length : Int))) with k6 | k6
  · (try simp only [wk, wl, wx, reduceLT, reduceEqDiff, Nat.reduceBEq, reduceIte, un, fa56_4, fa56_5, fa50_4, fa50_5, Nat.zero_add, a2.at ty53 rfl, a2.at ty54 rfl, b2.at ty47 rfl, b2.at ty48 rfl, Sl.lenB ob1.exps ty53 rfl, Sl.lenB ob1.slots ty54 rfl, Sl.lenB ob2.exps ty47 rfl, Sl.lenB ob2.slots ty48 rfl, k5, k6])
    (repeat refine WC.seq ?_)
    refine WC.cond (b := true) (by (try simp only [wk, wl, wx, reduceLT, reduceEqDiff, Nat.reduceBEq, reduceIte]); (try simp); (try omega)) ?_
    ((repeat refine WC.seq ?_); refine WC.run ?_)
    (try simp only [wk, wl, wx, reduceLT, reduceEqDiff, Nat.reduceBEq, reduceIte])
    refine WC.ret ?_
    (try simp only [wk, wl, wx, reduceLT, reduceEqDiff, Nat.reduceBEq, reduceIte])
    exact ⟨⟨false, rfl, by constructor <;> (intro q; first | (cases q; done) | (subst q; simp at *; done) | (subst q; simp_all; done))⟩, F2⟩
  rcases Bool.eq_false_or_eq_true (((o1.slots.length : Int) != (o2.slots.length : Int))) with k7 | k7
  · (try simp only [wk, wl, wx, reduceLT, reduceEqDiff, Nat.reduceBEq, reduceIte, un, fa56_4, fa56_5, fa50_4, fa50_5, Nat.zero_add, a2.at ty53 rfl, a2.at ty54 rfl, b2.at ty47 rfl, b2.at ty48 rfl, Sl.lenB ob1.exps ty53 rfl, Sl.lenB ob1.slots ty54 rfl, Sl.lenB ob2.exps ty47 rfl, Sl.lenB ob2.slots ty48 rfl, k5, k6, k7])
    (repeat refine WC.seq ?_)
    refine WC.cond (b := true) (by (try simp only [wk, wl, wx, reduceLT, reduceEqDiff, Nat.reduceBEq, reduceIte]); (try simp); (try omega)) ?_
    ((repeat refine WC.seq ?_); refine WC.run ?_)
    (try simp only [wk, wl, wx, reduceLT, reduceEqDiff, Nat.reduceBEq, reduceIte])
    refine WC.ret ?_
    (try simp only [wk, wl, wx, reduceLT, reduceEqDiff, Nat.reduceBEq, reduceIte])
    exact ⟨⟨false, rfl, by constructor <;> (intro q; first | (cases q; done) | (subst q; simp at *; done) | (subst q; simp_all; done))⟩, F2⟩
  (try simp only [wk, wl, wx, reduceLT, reduceEqDiff, Nat.reduceBEq, reduceIte, un, fa56_4, fa56_5, fa50_4, fa50_5, Nat.zero_add, a2.at ty53 rfl, a2.at ty54 rfl, b2.at ty47 rfl, b2.at ty48 rfl, Sl.lenB ob1.exps ty53 rfl, Sl.lenB ob1.slots ty54 rfl, Sl.lenB ob2.exps ty47 rfl, Sl.lenB ob2.slots ty48 rfl, k5, k6, k7])
  have lsy : o1.exps.length = o2.exps.length := by simp at k6; omega
  have lre : o1.slots.length = o2.slots.length := by simp at k7; omega
  (repeat refine WC.seq ?_)
  refine WC.cond (b := false) (by (try simp only [wk, wl, wx, reduceLT, reduceEqDiff, Nat.reduceBEq, reduceIte]); (try simp); (try omega)) (WC.skip ?_)
  (try simp only [wk, wl, wx, reduceLT, reduceEqDiff, Nat.reduceBEq, reduceIte])
  have Kq := F2
  have aq := a2
  have bq := b2
  have obq1 := ob1
  have obq2 := ob2
  ((repeat refine WC.seq ?_); refine WC.run ?_)
  (try simp only [wk, wl, wx, reduceLT, reduceEqDiff, Nat.reduceBEq, reduceIte, fa56_4, Nat.zero_add, aq.at ty53 rfl, Sl.lenB obq1.exps ty53 rfl])
  (repeat refine WC.seq ?_)
  refine WC.block ?_
  refine WC.while (fun m fr hh => ∃ ts i, fr = ⟨ts, 95, [], 22, none⟩ ∧ Fix (· < h'.next) h' hh ∧ m = o1.exps.length - i ∧ i ≤ o1.exps.length ∧ ts.get 2 = some (.ptr h.next 0) ∧ ts.get 3 = some (.ptr h1.next 0) ∧ ts.get 64 = some c1.exps ∧ ts.get 65 = some (.int .i64 o1.exps.length) ∧ ts.get 66 = some (.int .i64 i) ∧ o1.exps.take i = o2.exps.take i) ?_ ⟨_, 0, rfl, Fix.refl _ _, rfl, by omega, ?_, ?_, ?_, ?_, ?_, rfl⟩
  · rintro m fr hh ⟨ts, i, rfl, ff, rfl, hi, t2, t3, ta, tb, tc, he⟩
    have xh := ff.next
    have Kh : Kept h hh := Kq.trans (ff.sub fun b hb => by omega)
    have ah := aq.fix ff (by omega)
    have bh := bq.fix ff (by omega)
    have oh1 := obq1.fix ff (fun _ h => h)
    have oh2 := obq2.fix ff (fun _ h => h)
    ((repeat refine WC.seq ?_); refine WC.run ?_)
    (try simp only [wk, wl, wx, reduceLT, reduceEqDiff, Nat.reduceBEq, reduceIte, tb, tc])
    (repeat refine WC.seq ?_)
    by_cases hlt : i < o1.exps.length
    · refine WC.cond (b := true) (by (try simp only [wk, wl, wx, reduceLT, reduceEqDiff, Nat.reduceBEq, reduceIte]); (try simp); (try omega)) (WC.skip ?_)
      (try simp only [wk, wl, wx, reduceLT, reduceEqDiff, Nat.reduceBEq, reduceIte])
      have hlt' : i < o2.exps.length := by omega
      obtain ⟨p, p1, p2⟩ := oh1.exps.at (fun _ => rfl) ty53 rfl ty137 rfl (by decide) rfl hlt
      have p2 := p2 hh fun _ _ _ _ _ => rfl
      (repeat refine WC.seq ?_)
      refine WC.block ?_
      ((repeat refine WC.seq ?_); refine WC.run ?_)
      (try simp only [wk, wl, wx, reduceLT, reduceEqDiff, Nat.reduceBEq, reduceIte, ta, tc, p1, p2])
      refine wop_alloc ty137 ?_
      intro h5 b5 n5 f5
      (try simp only [wk, wl, wx, reduceLT, reduceEqDiff, Nat.reduceBEq, reduceIte])
      refine sat_store b5 ty137 rfl (by decide) rfl ?_
      intro h6 b6 n6 f6
      have b6 : Has h6 hh.next (expV o1.exps[i]) := b6
      have F6 : Fix (· < hh.next) hh h6 := ⟨by omega, fun c hc => by rw [f6.same c (by omega), f5.same c (by omega)]⟩
      have o62 := oh2.fix F6 (fun b hb => by omega)
      have b62 := bh.fix F6 (by omega)
      obtain ⟨q, q1, q2⟩ := o62.exps.at (fun _ => rfl) ty47 rfl ty134 rfl (by decide) rfl hlt'
      have q2 := q2 h6 fun _ _ _ _ _ => rfl
      have l6 : loadP (E g) h6 137 (.ptr hh.next 0) = some (.agg (expV o1.exps[i])) := b6.agg ty137 rfl (show 0 + 2 ≤ (expV o1.exps[i]).length from Nat.le_refl 2)
      (try simp only [wk, wl, wx, reduceLT, reduceEqDiff, Nat.reduceBEq, reduceIte])
      ((repeat refine WC.seq ?_); refine WC.draw (plans := pl22_6) (by kernel_rfl) ?_; simp only [pl22_6, List.mem_cons, List.not_mem_nil, or_false, forall_eq_or_imp, forall_eq])
      (try simp (maxSteps := 2000000) only [wk, wl, wx, reduceLT, reduceEqDiff, Nat.reduceBEq, reduceIte, wd, Chk, and_true, true_and, t3, fa50_4, Nat.zero_add, b62.at ty47 rfl, q1, q2, l6, neq137])
      (repeat refine WC.seq ?_)
      by_cases hc : o1.exps[i] = o2.exps[i]
      · refine WC.cond (b := false) (by (try simp only [wk, wl, wx, reduceLT, reduceEqDiff, Nat.reduceBEq, reduceIte]); simp [hc]) (WC.skip ?_)
        (try simp only [wk, wl, wx, reduceLT, reduceEqDiff, Nat.reduceBEq, reduceIte])
        ((repeat refine WC.seq ?_); refine WC.run ?_)
        (try simp only [wk, wl, wx, reduceLT, reduceEqDiff, Nat.reduceBEq, reduceIte, tc, bin_add])
        refine ⟨_, ?_, _, i + 1, rfl, ⟨by omega, fun b hb => by rw [F6.same b (by omega), ff.same b hb]⟩, rfl, by omega, ?_⟩
        · omega
        (try simp only [wk, wl, wx, reduceLT, reduceEqDiff, Nat.reduceBEq, reduceIte, t2, t3, ta, tb])
        refine ⟨trivial, trivial, trivial, trivial, ?_, ?_⟩
        · rw [wrap64 (by omega) (by omega)]; rfl
        · rw [List.take_succ_eq_append_getElem hlt, List.take_succ_eq_append_getElem hlt', he, hc]
      · refine WC.cond (b := true) (by (try simp only [wk, wl, wx, reduceLT, reduceEqDiff, Nat.reduceBEq, reduceIte]); simp [hc]) ?_
        ((repeat refine WC.seq ?_); refine WC.run ?_)
        (try simp only [wk, wl, wx, reduceLT, reduceEqDiff, Nat.reduceBEq, reduceIte])
        refine WC.ret ?_
        (try simp only [wk, wl, wx, reduceLT, reduceEqDiff, Nat.reduceBEq, reduceIte])
        refine ⟨⟨false, rfl, by constructor <;> (intro q; first | (cases q; done) | (subst q; exact absurd rfl hc))⟩, Kh.trans (F6.sub fun b hb => by omega)⟩
    · refine WC.cond (b := false) (by (try simp only [wk, wl, wx, reduceLT, reduceEqDiff, Nat.reduceBEq, reduceIte]); (try simp); (try omega)) (WC.exit ?_)
      have : i = o1.exps.length := by omega
      subst this
      (try simp only [wk, wl, wx, reduceLT, reduceEqDiff, Nat.reduceBEq, reduceIte])
      have esy : o1.exps = o2.exps := by
        rw [List.take_length] at he
        rw [he, lsy, List.take_length]
      have Kq := Kh
      have aq := ah
      have bq := bh
      have obq1 := oh1.up (K' := (· < hh.next)) (fun b hb => by omega)
      have obq2 := oh2.up (K' := (· < hh.next)) (fun b hb => by omega)
      ((repeat refine WC.seq ?_); refine WC.run ?_)
      (try simp only [wk, wl, wx, reduceLT, reduceEqDiff, Nat.reduceBEq, reduceIte, t2, fa56_5, Nat.zero_add, aq.at ty54 rfl, Sl.lenB obq1.slots ty54 rfl])
      (repeat refine WC.seq ?_)
      refine WC.block ?_
      refine WC.while (fun m fr hk => ∃ ts i, fr = ⟨ts, 95, [], 22, none⟩ ∧ Fix (· < hh.next) hh hk ∧ m = o1.slots.length - i ∧ i ≤ o1.slots.length ∧ ts.get 2 = some (.ptr h.next 0) ∧ ts.get 3 = some (.ptr h1.next 0) ∧ ts.get 80 = some c1.slots ∧ ts.get 81 = some (.int .i64 o1.slots.length) ∧ ts.get 82 = some (.int .i64 i) ∧ o1.slots.take i = o2.slots.take i) ?_ ⟨_, 0, rfl, Fix.refl _ _, rfl, by omega, ?_, ?_, ?_, ?_, ?_, rfl⟩
      · rintro m fr hk ⟨ts, i, rfl, ff, rfl, hi, t2, t3, ta, tb, tc, he⟩
        have xh := ff.next
        have Kh : Kept h hk := Kq.trans (ff.sub fun b hb => by omega)
        have ah := aq.fix ff (by omega)
        have bh := bq.fix ff (by omega)
        have oh1 := obq1.fix ff (fun _ h => h)
        have oh2 := obq2.fix ff (fun _ h => h)
        ((repeat refine WC.seq ?_); refine WC.run ?_)
        (try simp only [wk, wl, wx, reduceLT, reduceEqDiff, Nat.reduceBEq, reduceIte, tb, tc])
        (repeat refine WC.seq ?_)
        by_cases hlt : i < o1.slots.length
        · refine WC.cond (b := true) (by (try simp only [wk, wl, wx, reduceLT, reduceEqDiff, Nat.reduceBEq, reduceIte]); (try simp); (try omega)) (WC.skip ?_)
          (try simp only [wk, wl, wx, reduceLT, reduceEqDiff, Nat.reduceBEq, reduceIte])
          have hlt' : i < o2.slots.length := by omega
          obtain ⟨p, p1, p2⟩ := oh1.slots.at (fun _ => rfl) ty54 rfl ty138 rfl (by decide) rfl hlt
          have p2 := p2 hk fun _ _ _ _ _ => rfl
          (repeat refine WC.seq ?_)
          refine WC.block ?_
          ((repeat refine WC.seq ?_); refine WC.run ?_)
          (try simp only [wk, wl, wx, reduceLT, reduceEqDiff, Nat.reduceBEq, reduceIte, ta, tc, p1, p2])
          refine wop_alloc ty138 ?_
          intro h5 b5 n5 f5
          (try simp only [wk, wl, wx, reduceLT, reduceEqDiff, Nat.reduceBEq, reduceIte])
          refine sat_store b5 ty138 rfl (by decide) rfl ?_
          intro h6 b6 n6 f6
          have b6 : Has h6 hk.next (slotV o1.slots[i]) := b6
          have F6 : Fix (· < hk.next) hk h6 := ⟨by omega, fun c hc => by rw [f6.same c (by omega), f5.same c (by omega)]⟩
          have o62 := oh2.fix F6 (fun b hb => by omega)
          have b62 := bh.fix F6 (by omega)
          obtain ⟨q, q1, q2⟩ := o62.slots.at (fun _ => rfl) ty48 rfl ty136 rfl (by decide) rfl hlt'
          have q2 := q2 h6 fun _ _ _ _ _ => rfl
          have l6 : loadP (E g) h6 138 (.ptr hk.next 0) = some (.agg (slotV o1.slots[i])) := b6.agg ty138 rfl (show 0 + 3 ≤ (slotV o1.slots[i]).length from Nat.le_refl 3)
          (try simp only [wk, wl, wx, reduceLT, reduceEqDiff, Nat.reduceBEq, reduceIte])
          ((repeat refine WC.seq ?_); refine WC.draw (plans := pl22_12) (by kernel_rfl) ?_; simp only [pl22_12, List.mem_cons, List.not_mem_nil, or_false, forall_eq_or_imp, forall_eq])
          (try simp (maxSteps := 2000000) only [wk, wl, wx, reduceLT, reduceEqDiff, Nat.reduceBEq, reduceIte, wd, Chk, and_true, true_and, t3, fa50_5, Nat.zero_add, b62.at ty48 rfl, q1, q2, l6, neq138])
          (repeat refine WC.seq ?_)
          by_cases hc : o1.slots[i] = o2.slots[i]
          · refine WC.cond (b := false) (by (try simp only [wk, wl, wx, reduceLT, reduceEqDiff, Nat.reduceBEq, reduceIte]); simp [hc]) (WC.skip ?_)
            (try simp only [wk, wl, wx, reduceLT, reduceEqDiff, Nat.reduceBEq, reduceIte])
            ((repeat refine WC.seq ?_); refine WC.run ?_)
            (try simp only [wk, wl, wx, reduceLT, reduceEqDiff, Nat.reduceBEq, reduceIte, tc, bin_add])
            refine ⟨_, ?_, _, i + 1, rfl, ⟨by omega, fun b hb => by rw [F6.same b (by omega), ff.same b hb]⟩, rfl, by omega, ?_⟩
            · omega
            (try simp only [wk, wl, wx, reduceLT, reduceEqDiff, Nat.reduceBEq, reduceIte, t2, t3, ta, tb])
            refine ⟨trivial, trivial, trivial, trivial, ?_, ?_⟩
            · rw [wrap64 (by omega) (by omega)]; rfl
            · rw [List.take_succ_eq_append_getElem hlt, List.take_succ_eq_append_getElem hlt', he, hc]
          · refine WC.cond (b := true) (by (try simp only [wk, wl, wx, reduceLT, reduceEqDiff, Nat.reduceBEq, reduceIte]); simp [hc]) ?_
            ((repeat refine WC.seq ?_); refine WC.run ?_)
            (try simp only [wk, wl, wx, reduceLT, reduceEqDiff, Nat.reduceBEq, reduceIte])
            refine WC.ret ?_
            (try simp only [wk, wl, wx, reduceLT, reduceEqDiff, Nat.reduceBEq, reduceIte])
            refine ⟨⟨false, rfl, by constructor <;> (intro q; first | (cases q; done) | (subst q; exact absurd rfl hc))⟩, Kh.trans (F6.sub fun b hb => by omega)⟩
        · refine WC.cond (b := false) (by (try simp only [wk, wl, wx, reduceLT, reduceEqDiff, Nat.reduceBEq, reduceIte]); (try simp); (try omega)) (WC.exit ?_)
          have : i = o1.slots.length := by omega
          subst this
          (try simp only [wk, wl, wx, reduceLT, reduceEqDiff, Nat.reduceBEq, reduceIte])
          have ere : o1.slots = o2.slots := by
            rw [List.take_length] at he
            rw [he, lre, List.take_length]
          ((repeat refine WC.seq ?_); refine WC.run ?_)
          (try simp only [wk, wl, wx, reduceLT, reduceEqDiff, Nat.reduceBEq, reduceIte])
          refine WC.ret ?_
          (try simp only [wk, wl, wx, reduceLT, reduceEqDiff, Nat.reduceBEq, reduceIte])
          exact ⟨⟨true, rfl, fun _ => eq_of_partsI (by simpa using k1) (by simpa using k2) (by simpa using k3) (by simpa using k4) (by simpa using k5) esy ere, fun _ => rfl⟩, Kh⟩
      all_goals (try simp only [wk, wl, wx, reduceLT, reduceEqDiff, Nat.reduceBEq, reduceIte, t2, t3])
      all_goals (first | trivial | rfl | simp)
  all_goals (try simp only [wk, wl, wx, reduceLT, reduceEqDiff, Nat.reduceBEq, reduceIte, t2, t3])
  all_goals (first | trivial | rfl | simp)
end Go.Proofs.OP

namespace Go.Ev
open Go
section
variable {E : Env}
def Mi (h : H) (b : Nat) (L : List Int) : Prop := ∃ es c, h.t.get b = some (.map es c) ∧ es.map (fun e => (e.1, e.2.1)) = L.map (fun p => (V.int .i64 p, V.bool true))
theorem Mi.fix {h h' : H} {K : Nat → Prop} {b : Nat} {L : List Int} (m : Mi h b L) (f : Fix K h h') (hb : K b) : Mi h' b L := by
  obtain ⟨es, c, h1, h2⟩ := m
  exact ⟨es, c, by rw [f.same b hb]; exact h1, h2⟩
theorem find_int {h : H} {k : Int} : ∀ {L : List Int} {es : List (V × V × Nat)} {i : Nat}, es.map (fun e => (e.1, e.2.1)) = L.map (fun p => (V.int .i64 p, V.bool true)) →
    match L.contains k with
    | false => findK E h (.int .i64) (.int .i64 k) es i = some none
    | true => ∃ j born, findK E h (.int .i64) (.int .i64 k) es i = some (some (j, .bool true, born))
  | [], [], i, _ => rfl
  | [], e :: es, i, he => by simp at he
  | p :: L, [], i, he => by simp at he
  | p :: L, (ek, ev, ec) :: es, i, he => by
    simp only [List.map_cons, List.cons.injEq, Prod.mk.injEq] at he
    obtain ⟨⟨e1, e2⟩, e3⟩ := he
    subst e1 e2
    have ih := find_int (h := h) (k := k) (L := L) (es := es) (i := Nat.succ i) e3
    have hk : keyEq E h (.int .i64) (.int .i64 k) (.int .i64 p) = some (decide (k = p)) := rfl
    by_cases hp : k = p
    · subst hp
      have : (k :: L).contains k = true := by simp
      rw [this]
      refine ⟨i, ec, ?_⟩
      unfold findK
      rw [hk, decide_eq_true rfl]
    · have : (p :: L).contains k = L.contains k := by simp [List.contains_cons, hp]
      rw [this]
      have hf : findK E h (.int .i64) (.int .i64 k) ((.int .i64 p, .bool true, ec) :: es) i = findK E h (.int .i64) (.int .i64 k) es (Nat.succ i) := by
        conv => lhs; unfold findK
        rw [hk, decide_eq_false hp]
      rw [hf]
      exact ih
section
variable {h : H} {b ty kt et : Nat} {L : List Int} {i ki ei : TI} {k : Int}
theorem lookup_int (m : Mi h b L) (ht : E.tys.get ty = some i) (hd : i.desc = .map kt et) (hk : E.tys.get kt = some ki) (hkd : ki.desc = .int .i64) (he : E.tys.get et = some ei) (hz : ei.zeroV = some (.bool false)) :
    lookupV E h ty (.map b) (.int .i64 k) false = some (.bool (L.contains k)) := by
  obtain ⟨es, c, h1, h2⟩ := m
  have := find_int (E := E) (h := h) (k := k) (i := 0) h2
  simp only [lookupV, mapOf, ht, hd, hk, he, hkd, okKey, cond_true, mapEnts, h1]
  cases hl : L.contains k with
  | false => rw [hl] at this; simp only [this, hz, Option.map_some]; rfl
  | true =>
    rw [hl] at this
    obtain ⟨j, born, q1⟩ := this
    simp only [q1]; rfl
theorem sat_update_int {Q : V → H → Prop} (m : Mi h b L) (hn : L.contains k = false) (ht : E.tys.get ty = some i) (hd : i.desc = .map kt et) (hk : E.tys.get kt = some ki) (hkd : ki.desc = .int .i64) (he : E.tys.get et = some ei)
    (q : ∀ h', Mi h' b (L ++ [k]) → h'.next = h.next → Fix (· ≠ b) h h' → Q un h') : Sat1 (rh (updateV E h ty (.map b) (.int .i64 k) (.bool true))) Q := by
  obtain ⟨es, c, h1, h2⟩ := m
  have := find_int (E := E) (h := h) (k := k) (i := 0) h2
  rw [hn] at this
  simp only [updateV, mapOf, ht, hd, hk, he, hkd, okKey, cond_true, h1, this, sat_rh]
  exact q _ ⟨_, _, by simp only [H.put, T.get_set, if_true]; rfl, by simp [h2]⟩ rfl ⟨Nat.le_refl _, fun c hc => by simp only [H.put, T.get_set]; rw [if_neg hc]⟩
theorem wop_makeMap_int {fr : Fr} {d : Option Nat} {ty t : Nat} {p : String} {a : Array Edge} {g : Option (Nat × Bool)} {Q : V → H → Prop}
    (q : ∀ h', Mi h' h.next [] → h'.next = h.next + 1 → Fix (· < h.next) h h' → Q (.map h.next) h') : WOp E fr h ⟨d, .makeMap ty none, t, p, a, g⟩ Q := by
  show Sat1 (rone (.map h.next, { t := h.t.set h.next (.map [] 0), next := Nat.succ h.next })) Q
  rw [sat_rone]
  exact q _ ⟨[], 0, by simp only [T.get_set, if_true], rfl⟩ rfl ⟨Nat.le_succ _, fun c hc => by simp only [T.get_set]; rw [if_neg (Nat.ne_of_lt hc)]⟩
end
def leS (a b : List UInt8) : Bool := Op.bytesLess a b || a == b
theorem bin_sleq {h : H} {c : Bool} {t : Nat} {a b : List UInt8} : binV E h c .leq t (.str a) (.str b) = some (.bool (leS a b)) := rfl
end
def allB (p : Nat → Bool) (n : Nat) : Bool := (List.range n).all p
theorem allB_false {p : Nat → Bool} {n i : Nat} (hi : i < n) (h : p i = false) : allB p n = false := by
  cases hq : allB p n with
  | false => rfl
  | true => rw [allB, List.all_eq_true] at hq; rw [hq i (List.mem_range.2 hi)] at h; cases h
theorem allB_true {p : Nat → Bool} {n : Nat} (h : ∀ j, j < n → p j = true) : allB p n = true := by
  rw [allB, List.all_eq_true]; exact fun j hj => h j (List.mem_range.1 hj)
theorem allB_at {p : Nat → Bool} {n i : Nat} (h : allB p n = true) (hi : i < n) : p i = true := by
  rw [allB, List.all_eq_true] at h; exact h i (List.mem_range.2 hi)
theorem below_succ {p : Nat → Prop} {i : Nat} (h : ∀ j, j < i → p j) (hi : p i) : ∀ j, j < i + 1 → p j := fun j hj => by
  rcases Nat.lt_succ_iff_lt_or_eq.1 hj with q | rfl
  · exact h j q
  · exact hi
end Go.Ev
