/- Walks: right of an image. Printed by genr4.py. -/
import Derived.Test.YtloblhhnlaaajaaDoorV15
import Derived.Test.YtloblhhnlaaajaaDoorV24
import Derived.Test.YtloblhhnlaaajaaDoorV23
import Derived.Test.YtloblhhnlaaajaaDoorV18
set_option linter.unusedVariables false
set_option linter.unusedSimpArgs false
set_option linter.defProp false
set_option linter.unusedSimpArgs false
namespace Go.Proofs.OP
open Go Go.Ev
open Go.Proofs
open Nat (reduceLT reduceEqDiff)
variable {g : T (List V)}

def headI (x : ImgD) : Bool := decide (0 ≤ x.base) && (decide (x.base ≤ 2147483648) && (decide (x.base.tmod 16 = 0) && (decide ((x.bytes.length : Int) ≤ 131072) && (decide (0 ≤ x.code) && (decide (x.code ≤ x.bytes.length) && ((decide (x.entry = 0) || (decide (x.base ≤ x.entry) && decide (x.entry < x.base + x.code))) && decide ((x.needs.length : Int) ≤ 400)))))))
def expP (x : ImgD) (i : Nat) : Bool := match x.exps[i]? with
 | none => true
 | some e => decide (x.base ≤ e.addr) && decide (e.addr ≤ x.base + x.bytes.length)
def slotP (x : ImgD) (i : Nat) : Bool := match x.slots[i]? with
 | none => true
 | some s => decide (x.base ≤ s.addr) && (decide (s.addr ≤ x.base + x.bytes.length - 8) && (decide (s.addr.tmod 8 = 0) && (decide (0 ≤ s.bound) && (decide (s.bound ≤ 4294967296) && !((x.slots.take i).map (·.addr)).contains s.addr))))
def needP (L : List (List UInt8)) (i : Nat) : Bool := match L[i]? with
 | none => true
 | some s => decide (nameE s = 0) && !(L.take i).contains s
def rightB (x : ImgD) : Bool := headI x && (allB (expP x) x.exps.length && (allB (slotP x) x.slots.length && (allB (needP x.needs) x.needs.length && (incB (x.exps.map (·.name)) && incB (x.slots.map (·.name))))))
theorem headI_no {x : ImgD} (h : ¬ (0 ≤ x.base ∧ x.base ≤ 2147483648 ∧ x.base.tmod 16 = 0 ∧ (x.bytes.length : Int) ≤ 131072 ∧ 0 ≤ x.code ∧ x.code ≤ x.bytes.length ∧ (x.entry = 0 ∨ (x.base ≤ x.entry ∧ x.entry < x.base + x.code)) ∧ (x.needs.length : Int) ≤ 400)) : headI x = false := by
 refine Bool.eq_false_iff.2 fun hh => h ?_
 simpa only [headI, Bool.and_eq_true, Bool.or_eq_true, decide_eq_true_eq] using hh
theorem headI_yes {x : ImgD} (h : 0 ≤ x.base ∧ x.base ≤ 2147483648 ∧ x.base.tmod 16 = 0 ∧ (x.bytes.length : Int) ≤ 131072 ∧ 0 ≤ x.code ∧ x.code ≤ x.bytes.length ∧ (x.entry = 0 ∨ (x.base ≤ x.entry ∧ x.entry < x.base + x.code)) ∧ (x.needs.length : Int) ≤ 400) : headI x = true := by
 simpa only [headI, Bool.and_eq_true, Bool.or_eq_true, decide_eq_true_eq] using h
theorem map_snoc {α β : Type} (f : α → β) {L : List α} {i : Nat} (hi : i < L.length) : (L.take (i + 1)).map f = (L.take i).map f ++ [f L[i]] := by
 rw [List.take_succ_eq_append_getElem hi, List.map_append, List.map_cons, List.map_nil]

set_option maxRecDepth 100000 in
set_option maxHeartbeats 8000000 in
theorem rightA_ok {h : H} {b o0 : Nat} {c : Ic} {x : ImgD} (hb : At h b o0 (c.cells x)) (hbn : b < h.next) (im : Im g h (· < h.next) c x) (fit : FitsI x) : WF (E g) 52 [.ptr b o0] h fun v h' => v = .bool (rightB x) ∧ Kept h h' := by
 have fs := fit.exps
 have fr := fit.slots
 have fn := fit.needs
 have fc := fit.bytes
 have hb : At h b o0 [i64 x.base, c.bytes, i64 x.code, i64 x.entry, c.exps, c.slots, c.needs] := hb
 have l0 : loadP (E g) h 2 (.ptr b (o0 + 0)) = some (.int .i64 x.base) := hb.at ty2 rfl (j := 0) (by simp)
 have l2 : loadP (E g) h 2 (.ptr b (o0 + 2)) = some (.int .i64 x.code) := hb.at ty2 rfl (j := 2) (by simp)
 have l3 : loadP (E g) h 2 (.ptr b (o0 + 3)) = some (.int .i64 x.entry) := hb.at ty2 rfl (j := 3) (by simp)
 have r16 : ∀ {h : H} {k : Bool} {ty : Nat} {a : Int}, binV (E g) h k .rem ty (.int .i64 a) (.int .i64 16) = some (.int .i64 (a.tmod 16)) := fun {h k ty a} => bin_rem (by decide)
 have r8 : ∀ {h : H} {k : Bool} {ty : Nat} {a : Int}, binV (E g) h k .rem ty (.int .i64 a) (.int .i64 8) = some (.int .i64 (a.tmod 8)) := fun {h k ty a} => bin_rem (by decide)
 refine WF.enter fn52 rfl ?_
 ((repeat refine WC.seq ?_); refine WC.run ?_)
 (try simp only [wk, wl, wx, reduceLT, reduceEqDiff, Nat.reduceBEq, reduceIte])
 ((repeat refine WC.seq ?_); refine WC.run ?_)
 (try simp only [wk, wl, wx, reduceLT, reduceEqDiff, Nat.reduceBEq, reduceIte, fa32_1, Nat.zero_add, hb.at ty27 rfl (j := 1) (by simp), im.bytes.len])
 ((repeat refine WC.seq ?_); refine WC.run ?_)
 refine WRun_two 6 (M := fun fr hM => hM = h ∧ ∃ ts, fr = ⟨ts, 220, [], 52, none⟩ ∧ ts.get 0 = some (.ptr b o0) ∧ ts.get 3 = some (.int .i64 x.bytes.length) ∧ ts.get 23 = some (.bool (decide (x.base < 0)))) ?_ ?_
 ·skip
  (try simp only [wk, wl, wx, reduceLT, reduceEqDiff, Nat.reduceBEq, reduceIte, List.take_succ_cons, List.take_zero, un, fa32_0, fa32_2, fa32_3, Nat.zero_add, l0, l2, l3, r16, bin_add])
  first | refine ⟨by trivial, _, rfl, ?_, ?_, ?_⟩ | refine ⟨_, rfl, ?_, ?_, ?_⟩
  all_goals (try simp only [wk, wl, wx, reduceLT, reduceEqDiff, Nat.reduceBEq, reduceIte, Nat.zero_add, Bool.true_or, Bool.false_or, Bool.true_and, Bool.false_and])
  all_goals (first | done | rfl | trivial)
 rintro fr hM ⟨hhe, ts, rfl, t0, t3, tB⟩
 subst hM
 simp only [List.drop_succ_cons, List.drop_zero]
 refine WRun_two 7 (M := fun fr hM => hM = h ∧ ∃ ts, fr = ⟨ts, 220, [], 52, none⟩ ∧ ts.get 0 = some (.ptr b o0) ∧ ts.get 3 = some (.int .i64 x.bytes.length) ∧ ts.get 30 = some (.bool ((decide (x.base < 0) || decide ((2147483648 : Int) < x.base))))) ?_ ?_
 ·skip
  cases hB : decide (x.base < 0) with
  | true =>
   rw [hB] at tB
   (try simp only [wk, wl, wx, reduceLT, reduceEqDiff, Nat.reduceBEq, reduceIte, List.take_succ_cons, List.take_zero, un, t0, t3, hB, tB, fa32_0, fa32_2, fa32_3, Nat.zero_add, l0, l2, l3, r16, bin_add])
   first | refine ⟨by trivial, _, rfl, ?_, ?_, ?_⟩ | refine ⟨_, rfl, ?_, ?_, ?_⟩
   all_goals (try simp only [wk, wl, wx, reduceLT, reduceEqDiff, Nat.reduceBEq, reduceIte, t0, t3, hB, tB, Bool.true_or, Bool.false_or, Bool.true_and, Bool.false_and])
   all_goals (first | done | rfl | trivial)
  | false =>
   rw [hB] at tB
   (try simp only [wk, wl, wx, reduceLT, reduceEqDiff, Nat.reduceBEq, reduceIte, List.take_succ_cons, List.take_zero, un, t0, t3, hB, tB, fa32_0, fa32_2, fa32_3, Nat.zero_add, l0, l2, l3, r16, bin_add])
   first | refine ⟨by trivial, _, rfl, ?_, ?_, ?_⟩ | refine ⟨_, rfl, ?_, ?_, ?_⟩
   all_goals (try simp only [wk, wl, wx, reduceLT, reduceEqDiff, Nat.reduceBEq, reduceIte, t0, t3, hB, tB, Bool.true_or, Bool.false_or, Bool.true_and, Bool.false_and])
   all_goals (first | done | rfl | trivial)
 clear t0 t3 tB
 rintro fr hM ⟨hhe, ts, rfl, t0, t3, tB⟩
 subst hM
 simp only [List.drop_succ_cons, List.drop_zero]
 refine WRun_two 8 (M := fun fr hM => hM = h ∧ ∃ ts, fr = ⟨ts, 220, [], 52, none⟩ ∧ ts.get 0 = some (.ptr b o0) ∧ ts.get 3 = some (.int .i64 x.bytes.length) ∧ ts.get 38 = some (.bool (((decide (x.base < 0) || decide ((2147483648 : Int) < x.base)) || (x.base.tmod 16 != 0))))) ?_ ?_
 ·skip
  cases hB : (decide (x.base < 0) || decide ((2147483648 : Int) < x.base)) with
  | true =>
   rw [hB] at tB
   (try simp only [wk, wl, wx, reduceLT, reduceEqDiff, Nat.reduceBEq, reduceIte, List.take_succ_cons, List.take_zero, un, t0, t3, hB, tB, fa32_0, fa32_2, fa32_3, Nat.zero_add, l0, l2, l3, r16, bin_add])
   first | refine ⟨by trivial, _, rfl, ?_, ?_, ?_⟩ | refine ⟨_, rfl, ?_, ?_, ?_⟩
   all_goals (try simp only [wk, wl, wx, reduceLT, reduceEqDiff, Nat.reduceBEq, reduceIte, t0, t3, hB, tB, Bool.true_or, Bool.false_or, Bool.true_and, Bool.false_and])
   all_goals (first | done | rfl | trivial)
  | false =>
   rw [hB] at tB
   (try simp only [wk, wl, wx, reduceLT, reduceEqDiff, Nat.reduceBEq, reduceIte, List.take_succ_cons, List.take_zero, un, t0, t3, hB, tB, fa32_0, fa32_2, fa32_3, Nat.zero_add, l0, l2, l3, r16, bin_add])
   first | refine ⟨by trivial, _, rfl, ?_, ?_, ?_⟩ | refine ⟨_, rfl, ?_, ?_, ?_⟩
   all_goals (try simp only [wk, wl, wx, reduceLT, reduceEqDiff, Nat.reduceBEq, reduceIte, t0, t3, hB, tB, Bool.true_or, Bool.false_or, Bool.true_and, Bool.false_and])
   all_goals (first | done | rfl | trivial)
 clear t0 t3 tB
 rintro fr hM ⟨hhe, ts, rfl, t0, t3, tB⟩
 subst hM
 simp only [List.drop_succ_cons, List.drop_zero]
 refine WRun_two 4 (M := fun fr hM => hM = h ∧ ∃ ts, fr = ⟨ts, 220, [], 52, none⟩ ∧ ts.get 0 = some (.ptr b o0) ∧ ts.get 3 = some (.int .i64 x.bytes.length) ∧ ts.get 42 = some (.bool ((((decide (x.base < 0) || decide ((2147483648 : Int) < x.base)) || (x.base.tmod 16 != 0)) || decide ((131072 : Int) < x.bytes.length))))) ?_ ?_
 ·skip
  cases hB : ((decide (x.base < 0) || decide ((2147483648 : Int) < x.base)) || (x.base.tmod 16 != 0)) with
  | true =>
   rw [hB] at tB
   (try simp only [wk, wl, wx, reduceLT, reduceEqDiff, Nat.reduceBEq, reduceIte, List.take_succ_cons, List.take_zero, un, t0, t3, hB, tB, fa32_0, fa32_2, fa32_3, Nat.zero_add, l0, l2, l3, r16, bin_add])
   first | refine ⟨by trivial, _, rfl, ?_, ?_, ?_⟩ | refine ⟨_, rfl, ?_, ?_, ?_⟩
   all_goals (try simp only [wk, wl, wx, reduceLT, reduceEqDiff, Nat.reduceBEq, reduceIte, t0, t3, hB, tB, Bool.true_or, Bool.false_or, Bool.true_and, Bool.false_and])
   all_goals (first | done | rfl | trivial)
  | false =>
   rw [hB] at tB
   (try simp only [wk, wl, wx, reduceLT, reduceEqDiff, Nat.reduceBEq, reduceIte, List.take_succ_cons, List.take_zero, un, t0, t3, hB, tB, fa32_0, fa32_2, fa32_3, Nat.zero_add, l0, l2, l3, r16, bin_add])
   first | refine ⟨by trivial, _, rfl, ?_, ?_, ?_⟩ | refine ⟨_, rfl, ?_, ?_, ?_⟩
   all_goals (try simp only [wk, wl, wx, reduceLT, reduceEqDiff, Nat.reduceBEq, reduceIte, t0, t3, hB, tB, Bool.true_or, Bool.false_or, Bool.true_and, Bool.false_and])
   all_goals (first | done | rfl | trivial)
 clear t0 t3 tB
 rintro fr hM ⟨hhe, ts, rfl, t0, t3, tB⟩
 subst hM
 simp only [List.drop_succ_cons, List.drop_zero]
 refine WRun_two 7 (M := fun fr hM => hM = h ∧ ∃ ts, fr = ⟨ts, 220, [], 52, none⟩ ∧ ts.get 0 = some (.ptr b o0) ∧ ts.get 3 = some (.int .i64 x.bytes.length) ∧ ts.get 49 = some (.bool (((((decide (x.base < 0) || decide ((2147483648 : Int) < x.base)) || (x.base.tmod 16 != 0)) || decide ((131072 : Int) < x.bytes.length)) || decide (x.code < 0))))) ?_ ?_
 ·skip
  cases hB : (((decide (x.base < 0) || decide ((2147483648 : Int) < x.base)) || (x.base.tmod 16 != 0)) || decide ((131072 : Int) < x.bytes.length)) with
  | true =>
   rw [hB] at tB
   (try simp only [wk, wl, wx, reduceLT, reduceEqDiff, Nat.reduceBEq, reduceIte, List.take_succ_cons, List.take_zero, un, t0, t3, hB, tB, fa32_0, fa32_2, fa32_3, Nat.zero_add, l0, l2, l3, r16, bin_add])
   first | refine ⟨by trivial, _, rfl, ?_, ?_, ?_⟩ | refine ⟨_, rfl, ?_, ?_, ?_⟩
   all_goals (try simp only [wk, wl, wx, reduceLT, reduceEqDiff, Nat.reduceBEq, reduceIte, t0, t3, hB, tB, Bool.true_or, Bool.false_or, Bool.true_and, Bool.false_and])
   all_goals (first | done | rfl | trivial)
  | false =>
   rw [hB] at tB
   (try simp only [wk, wl, wx, reduceLT, reduceEqDiff, Nat.reduceBEq, reduceIte, List.take_succ_cons, List.take_zero, un, t0, t3, hB, tB, fa32_0, fa32_2, fa32_3, Nat.zero_add, l0, l2, l3, r16, bin_add])
   first | refine ⟨by trivial, _, rfl, ?_, ?_, ?_⟩ | refine ⟨_, rfl, ?_, ?_, ?_⟩
   all_goals (try simp only [wk, wl, wx, reduceLT, reduceEqDiff, Nat.reduceBEq, reduceIte, t0, t3, hB, tB, Bool.true_or, Bool.false_or, Bool.true_and, Bool.false_and])
   all_goals (first | done | rfl | trivial)
 clear t0 t3 tB
 rintro fr hM ⟨hhe, ts, rfl, t0, t3, tB⟩
 subst hM
 simp only [List.drop_succ_cons, List.drop_zero]
 refine WRun_two 7 (M := fun fr hM => hM = h ∧ ∃ ts, fr = ⟨ts, 220, [], 52, none⟩ ∧ ts.get 0 = some (.ptr b o0) ∧ ts.get 3 = some (.int .i64 x.bytes.length) ∧ ts.get 56 = some (.bool ((((((decide (x.base < 0) || decide ((2147483648 : Int) < x.base)) || (x.base.tmod 16 != 0)) || decide ((131072 : Int) < x.bytes.length)) || decide (x.code < 0)) || decide ((x.bytes.length : Int) < x.code))))) ?_ ?_
 ·skip
  cases hB : ((((decide (x.base < 0) || decide ((2147483648 : Int) < x.base)) || (x.base.tmod 16 != 0)) || decide ((131072 : Int) < x.bytes.length)) || decide (x.code < 0)) with
  | true =>
   rw [hB] at tB
   (try simp only [wk, wl, wx, reduceLT, reduceEqDiff, Nat.reduceBEq, reduceIte, List.take_succ_cons, List.take_zero, un, t0, t3, hB, tB, fa32_0, fa32_2, fa32_3, Nat.zero_add, l0, l2, l3, r16, bin_add])
   first | refine ⟨by trivial, _, rfl, ?_, ?_, ?_⟩ | refine ⟨_, rfl, ?_, ?_, ?_⟩
   all_goals (try simp only [wk, wl, wx, reduceLT, reduceEqDiff, Nat.reduceBEq, reduceIte, t0, t3, hB, tB, Bool.true_or, Bool.false_or, Bool.true_and, Bool.false_and])
   all_goals (first | done | rfl | trivial)
  | false =>
   rw [hB] at tB
   (try simp only [wk, wl, wx, reduceLT, reduceEqDiff, Nat.reduceBEq, reduceIte, List.take_succ_cons, List.take_zero, un, t0, t3, hB, tB, fa32_0, fa32_2, fa32_3, Nat.zero_add, l0, l2, l3, r16, bin_add])
   first | refine ⟨by trivial, _, rfl, ?_, ?_, ?_⟩ | refine ⟨_, rfl, ?_, ?_, ?_⟩
   all_goals (try simp only [wk, wl, wx, reduceLT, reduceEqDiff, Nat.reduceBEq, reduceIte, t0, t3, hB, tB, Bool.true_or, Bool.false_or, Bool.true_and, Bool.false_and])
   all_goals (first | done | rfl | trivial)
 clear t0 t3 tB
 rintro fr hM ⟨hhe, ts, rfl, t0, t3, tB⟩
 subst hM
 simp only [List.drop_succ_cons, List.drop_zero]
 (try simp only [wk, wl, wx, reduceLT, reduceEqDiff, Nat.reduceBEq, reduceIte])
 (repeat refine WC.seq ?_)
 cases hH1 : (((((decide (x.base < 0) || decide ((2147483648 : Int) < x.base)) || (x.base.tmod 16 != 0)) || decide ((131072 : Int) < x.bytes.length)) || decide (x.code < 0)) || decide ((x.bytes.length : Int) < x.code)) with
 | true =>
  refine WC.cond (b := true) (by (try simp only [wk, wl, wx, reduceLT, reduceEqDiff, Nat.reduceBEq, reduceIte, tB, hH1]); (try rfl)) ?_
  ((repeat refine WC.seq ?_); refine WC.run ?_)
  (try simp only [wk, wl, wx, reduceLT, reduceEqDiff, Nat.reduceBEq, reduceIte])
  refine WC.ret ?_
  (try simp only [wk, wl, wx, reduceLT, reduceEqDiff, Nat.reduceBEq, reduceIte])
  refine ⟨?_, Fix.refl _ _⟩
  have : headI x = false := by
   refine headI_no fun hh => ?_
   simp only [Bool.or_eq_true, decide_eq_true_eq, bne_iff_ne, ne_eq] at hH1
   obtain ⟨a1, a2, a3, a4, a5, a6, -⟩ := hh
   omega
  rw [rightB, this, Bool.false_and]
 | false =>
 refine WC.cond (b := false) (by (try simp only [wk, wl, wx, reduceLT, reduceEqDiff, Nat.reduceBEq, reduceIte, tB, hH1]); (try rfl)) (WC.skip ?_)
 (try simp only [wk, wl, wx, reduceLT, reduceEqDiff, Nat.reduceBEq, reduceIte])
 clear tB
 simp only [Bool.or_eq_false_iff, decide_eq_false_iff_not, bne_eq_false_iff_eq] at hH1
 obtain ⟨⟨⟨⟨⟨r1, r2⟩, r3⟩, r4⟩, r5⟩, r6⟩ := hH1
 have ew : IntKind.i64.wrap (x.base + x.code) = x.base + x.code := wrap64 (by omega) (by omega)
 ((repeat refine WC.seq ?_); refine WC.draw (plans := pl52_4) (by kernel_rfl) ?_; simp only [pl52_4, List.mem_cons, List.not_mem_nil, or_false, forall_eq_or_imp, forall_eq])
 refine WPlan_two 33 (M := fun fr hM => hM = h ∧ ∃ ts, fr = ⟨ts, 220, [], 52, none⟩ ∧ ts.get 0 = some (.ptr b o0) ∧ ts.get 3 = some (.int .i64 x.bytes.length) ∧ ts.get 89 = some (.bool (((x.entry != 0) && (decide (x.entry < x.base) || decide (IntKind.i64.wrap (x.base + x.code) ≤ x.entry)))))) rfl ?_ ?_
 ·skip
  cases hc0 : (x.entry != 0) with
  | true =>
   cases hc1 : decide (x.entry < x.base) with
   | true =>
    (try simp (maxSteps := 2000000) only [wk, wl, wx, reduceLT, reduceEqDiff, Nat.reduceBEq, reduceIte, wd, Chk, and_true, true_and, List.take_succ_cons, List.take_zero, un, t0, t3, hc0, hc1, fa32_0, fa32_2, fa32_3, fa32_6, Nat.zero_add, l0, l2, l3, hb.at ty30 rfl (j := 6) (by simp), Sl.lenB im.needs ty30 rfl, bin_add])
    first | refine ⟨by trivial, _, rfl, ?_, ?_, ?_⟩ | refine ⟨_, rfl, ?_, ?_, ?_⟩
    all_goals (try simp only [wk, wl, wx, reduceLT, reduceEqDiff, Nat.reduceBEq, reduceIte, t0, t3, hc0, hc1, Bool.true_or, Bool.false_or, Bool.true_and, Bool.false_and])
    all_goals (first | done | rfl | trivial)
   | false =>
    (try simp (maxSteps := 2000000) only [wk, wl, wx, reduceLT, reduceEqDiff, Nat.reduceBEq, reduceIte, wd, Chk, and_true, true_and, List.take_succ_cons, List.take_zero, un, t0, t3, hc0, hc1, fa32_0, fa32_2, fa32_3, fa32_6, Nat.zero_add, l0, l2, l3, hb.at ty30 rfl (j := 6) (by simp), Sl.lenB im.needs ty30 rfl, bin_add])
    first | refine ⟨by trivial, _, rfl, ?_, ?_, ?_⟩ | refine ⟨_, rfl, ?_, ?_, ?_⟩
    all_goals (try simp only [wk, wl, wx, reduceLT, reduceEqDiff, Nat.reduceBEq, reduceIte, t0, t3, hc0, hc1, Bool.true_or, Bool.false_or, Bool.true_and, Bool.false_and])
    all_goals (first | done | rfl | trivial)
  | false =>
   (try simp (maxSteps := 2000000) only [wk, wl, wx, reduceLT, reduceEqDiff, Nat.reduceBEq, reduceIte, wd, Chk, and_true, true_and, List.take_succ_cons, List.take_zero, un, t0, t3, hc0, fa32_0, fa32_2, fa32_3, fa32_6, Nat.zero_add, l0, l2, l3, hb.at ty30 rfl (j := 6) (by simp), Sl.lenB im.needs ty30 rfl, bin_add])
   first | refine ⟨by trivial, _, rfl, ?_, ?_, ?_⟩ | refine ⟨_, rfl, ?_, ?_, ?_⟩
   all_goals (try simp only [wk, wl, wx, reduceLT, reduceEqDiff, Nat.reduceBEq, reduceIte, t0, t3, hc0, Bool.true_or, Bool.false_or, Bool.true_and, Bool.false_and])
   all_goals (first | done | rfl | trivial)
 clear t0 t3
 rintro fr hM ⟨hhe, ts, rfl, t0, t3, tB⟩
 subst hM
 simp only [List.drop_succ_cons, List.drop_zero]
 refine WPlan_two 7 (M := fun fr hM => hM = h ∧ ∃ ts, fr = ⟨ts, 220, [], 52, none⟩ ∧ ts.get 0 = some (.ptr b o0) ∧ ts.get 3 = some (.int .i64 x.bytes.length) ∧ ts.get 96 = some (.bool ((((x.entry != 0) && (decide (x.entry < x.base) || decide (IntKind.i64.wrap (x.base + x.code) ≤ x.entry))) || decide ((400 : Int) < x.needs.length))))) rfl ?_ ?_
 ·skip
  cases hB : ((x.entry != 0) && (decide (x.entry < x.base) || decide (IntKind.i64.wrap (x.base + x.code) ≤ x.entry))) with
  | true =>
   rw [hB] at tB
   (try simp (maxSteps := 2000000) only [wk, wl, wx, reduceLT, reduceEqDiff, Nat.reduceBEq, reduceIte, wd, Chk, and_true, true_and, List.take_succ_cons, List.take_zero, un, t0, t3, hB, tB, fa32_0, fa32_2, fa32_3, fa32_6, Nat.zero_add, l0, l2, l3, hb.at ty30 rfl (j := 6) (by simp), Sl.lenB im.needs ty30 rfl, bin_add])
   first | refine ⟨by trivial, _, rfl, ?_, ?_, ?_⟩ | refine ⟨_, rfl, ?_, ?_, ?_⟩
   all_goals (try simp only [wk, wl, wx, reduceLT, reduceEqDiff, Nat.reduceBEq, reduceIte, t0, t3, hB, tB, Bool.true_or, Bool.false_or, Bool.true_and, Bool.false_and])
   all_goals (first | done | rfl | trivial)
  | false =>
   rw [hB] at tB
   (try simp (maxSteps := 2000000) only [wk, wl, wx, reduceLT, reduceEqDiff, Nat.reduceBEq, reduceIte, wd, Chk, and_true, true_and, List.take_succ_cons, List.take_zero, un, t0, t3, hB, tB, fa32_0, fa32_2, fa32_3, fa32_6, Nat.zero_add, l0, l2, l3, hb.at ty30 rfl (j := 6) (by simp), Sl.lenB im.needs ty30 rfl, bin_add])
   first | refine ⟨by trivial, _, rfl, ?_, ?_, ?_⟩ | refine ⟨_, rfl, ?_, ?_, ?_⟩
   all_goals (try simp only [wk, wl, wx, reduceLT, reduceEqDiff, Nat.reduceBEq, reduceIte, t0, t3, hB, tB, Bool.true_or, Bool.false_or, Bool.true_and, Bool.false_and])
   all_goals (first | done | rfl | trivial)
 clear t0 t3 tB
 rintro fr hM ⟨hhe, ts, rfl, t0, t3, tB⟩
 subst hM
 simp only [List.drop_succ_cons, List.drop_zero]
 (try simp (maxSteps := 2000000) only [wk, wl, wx, reduceLT, reduceEqDiff, Nat.reduceBEq, reduceIte, wd, Chk, and_true, true_and])
 rw [ew] at tB
 (repeat refine WC.seq ?_)
 cases hH2 : ((((x.entry != 0) && (decide (x.entry < x.base) || decide (x.base + x.code ≤ x.entry))) || decide ((400 : Int) < x.needs.length))) with
 | true =>
  refine WC.cond (b := true) (by (try simp only [wk, wl, wx, reduceLT, reduceEqDiff, Nat.reduceBEq, reduceIte, tB, hH2]); (try rfl)) ?_
  ((repeat refine WC.seq ?_); refine WC.run ?_)
  (try simp only [wk, wl, wx, reduceLT, reduceEqDiff, Nat.reduceBEq, reduceIte])
  refine WC.ret ?_
  (try simp only [wk, wl, wx, reduceLT, reduceEqDiff, Nat.reduceBEq, reduceIte])
  refine ⟨?_, Fix.refl _ _⟩
  have : headI x = false := by
   refine headI_no fun hh => ?_
   simp only [Bool.or_eq_true, Bool.and_eq_true, decide_eq_true_eq, bne_iff_ne, ne_eq] at hH2
   obtain ⟨a1, a2, a3, a4, a5, a6, a7, a8⟩ := hh
   omega
  rw [rightB, this, Bool.false_and]
 | false =>
 refine WC.cond (b := false) (by (try simp only [wk, wl, wx, reduceLT, reduceEqDiff, Nat.reduceBEq, reduceIte, tB, hH2]); (try rfl)) (WC.skip ?_)
 (try simp only [wk, wl, wx, reduceLT, reduceEqDiff, Nat.reduceBEq, reduceIte])
 clear tB
 have hH : headI x = true := by
  refine headI_yes ⟨by omega, by omega, r3, by omega, by omega, by omega, ?_⟩
  simp only [Bool.or_eq_false_iff, Bool.and_eq_false_iff, decide_eq_false_iff_not, bne_eq_false_iff_eq] at hH2
  omega
 obtain ⟨hh, hhe⟩ : ∃ hh, hh = h := ⟨h, rfl⟩
 subst h
 have w1 : ∀ n : Int, 0 ≤ n → n ≤ 131072 → IntKind.i64.wrap (x.base + n) = x.base + n := fun n h1 h2 => wrap64 (by omega) (by omega)
 have w2 : IntKind.i64.wrap (x.base + x.bytes.length) = x.base + x.bytes.length := w1 _ (by omega) (by omega)
 have w3 : IntKind.i64.wrap (x.base + x.bytes.length - 8) = x.base + x.bytes.length - 8 := wrap64 (by omega) (by omega)
 ((repeat refine WC.seq ?_); refine WC.run ?_)
 (try simp only [wk, wl, wx, reduceLT, reduceEqDiff, Nat.reduceBEq, reduceIte])
 ((repeat refine WC.seq ?_); refine WC.run ?_)
 (try simp only [wk, wl, wx, reduceLT, reduceEqDiff, Nat.reduceBEq, reduceIte])
 refine wop_makeMap_int ?_
 intro h1 m1 n1 f1
 (try simp only [wk, wl, wx, reduceLT, reduceEqDiff, Nat.reduceBEq, reduceIte])
 have B1 := hb.fix f1 hbn
 have im1 := (im.fix f1 (fun _ h => h)).up (K' := (· < h1.next)) (fun _ h => by omega)
 ((repeat refine WC.seq ?_); refine WC.run ?_)
 (try simp only [wk, wl, wx, reduceLT, reduceEqDiff, Nat.reduceBEq, reduceIte, t0, fa32_4, Nat.zero_add, B1.at ty28 rfl (j := 4) (by simp), Sl.lenB im1.exps ty28 rfl])
 (repeat refine WC.seq ?_)
 refine WC.block ?_
 refine WC.while (fun m fr hq => ∃ ts i ev, fr = ⟨ts, 220, [], 52, none⟩ ∧ Fix (· < h1.next) h1 hq ∧ m = x.exps.length - i ∧ i ≤ x.exps.length ∧ ts.get 0 = some (.ptr b o0) ∧ ts.get 3 = some (.int .i64 x.bytes.length) ∧ ts.get 4 = some ev ∧ ts.get 5 = some .nils ∧ ts.get 6 = some (.map hh.next) ∧ ts.get 101 = some c.exps ∧ ts.get 102 = some (.int .i64 x.exps.length) ∧ ts.get 103 = some (.int .i64 i) ∧ Buf (E g) hq 9 1 ev i ((x.exps.take i).map fun e => V.str e.name) ∧ In (fun b => h1.next ≤ b ∧ b < hq.next) ev ∧ ∀ j, j < i → expP x j = true) ?_ ⟨_, 0, .nils, rfl, Fix.refl _ _, rfl, by omega, ?_, ?_, ?_, ?_, ?_, ?_, ?_, ?_, .nil, In.nils, fun j hj => absurd hj (Nat.not_lt_zero _)⟩
 ·rintro m fr hq ⟨ts, i, ev, rfl, fq, rfl, hi, t0, t3, t4, t5, t6, t101, t102, t103, bu, nw, hal⟩
  have xq := fq.next
  have Bq := B1.fix fq (by omega)
  have imq := (im1.fix fq (fun x hx => hx)).up (K' := (· < hq.next)) (fun x hx => by omega)
  ((repeat refine WC.seq ?_); refine WC.run ?_)
  (try simp only [wk, wl, wx, reduceLT, reduceEqDiff, Nat.reduceBEq, reduceIte, t102, t103])
  (repeat refine WC.seq ?_)
  by_cases hlt : i < x.exps.length
  ·refine WC.cond (b := true) (by (try simp only [wk, wl, wx, reduceLT, reduceEqDiff, Nat.reduceBEq, reduceIte]); (try simp); (try omega)) (WC.skip ?_)
   (try simp only [wk, wl, wx, reduceLT, reduceEqDiff, Nat.reduceBEq, reduceIte])
   obtain ⟨p, p1, p2⟩ := imq.exps.at expV_length ty28 rfl ty41 rfl (by decide) rfl hlt
   have p2 := p2 hq fun _ _ _ _ _ => rfl
   have hg : x.exps[i]? = some x.exps[i] := List.getElem?_eq_getElem hlt
   (repeat refine WC.seq ?_)
   refine WC.block ?_
   ((repeat refine WC.seq ?_); refine WC.run ?_)
   (try simp only [wk, wl, wx, reduceLT, reduceEqDiff, Nat.reduceBEq, reduceIte, t101, t103, p1, p2])
   refine wop_alloc ty41 ?_
   intro h5 b5 n5 f5
   (try simp only [wk, wl, wx, reduceLT, reduceEqDiff, Nat.reduceBEq, reduceIte])
   refine sat_store b5 ty41 rfl (by decide) rfl ?_
   intro h6 b6 n6 f6
   have b6 : Has h6 hq.next (expV x.exps[i]) := b6
   have F6 : Fix (· < hq.next) hq h6 := ⟨by omega, fun c hc => by rw [f6.same c (by omega), f5.same c (by omega)]⟩
   have B6 := Bq.fix F6 (by omega)
   have k0 : loadP (E g) h6 2 (.ptr b (o0 + 0)) = some (.int .i64 x.base) := B6.at ty2 rfl (j := 0) (by simp)
   have k1 : loadP (E g) h6 2 (.ptr hq.next 1) = some (.int .i64 x.exps[i].addr) := b6.at ty2 rfl 1
   have k2 : loadP (E g) h6 9 (.ptr hq.next 0) = some (.str x.exps[i].name) := b6.at ty9 rfl 0
   (try simp only [wk, wl, wx, reduceLT, reduceEqDiff, Nat.reduceBEq, reduceIte])
   ((repeat refine WC.seq ?_); refine WC.draw (plans := pl52_11) (by kernel_rfl) ?_; simp only [pl52_11, List.mem_cons, List.not_mem_nil, or_false, forall_eq_or_imp, forall_eq])
   refine WPlan_two 8 (M := fun fr hM => hM = h6 ∧ ∃ ts, fr = ⟨ts, 220, [], 52, none⟩ ∧ ts.get 0 = some (.ptr b o0) ∧ ts.get 3 = some (.int .i64 x.bytes.length) ∧ ts.get 4 = some (ev) ∧ ts.get 5 = some (.nils) ∧ ts.get 6 = some (.map hh.next) ∧ ts.get 8 = some (.ptr hq.next 0) ∧ ts.get 101 = some (c.exps) ∧ ts.get 102 = some (.int .i64 x.exps.length) ∧ ts.get 103 = some (.int .i64 i) ∧ ts.get 114 = some (.bool (decide (x.exps[i].addr < x.base)))) rfl ?_ ?_
   ·skip
    (try simp (maxSteps := 2000000) only [wk, wl, wx, reduceLT, reduceEqDiff, Nat.reduceBEq, reduceIte, wd, Chk, and_true, true_and, List.take_succ_cons, List.take_zero, un, t0, t3, t4, t5, t6, t101, t102, t103, fa41_1, fa32_0, Nat.zero_add, k0, k1, bin_add, w2])
    first | refine ⟨by trivial, _, rfl, ?_, ?_, ?_, ?_, ?_, ?_, ?_, ?_, ?_, ?_⟩ | refine ⟨_, rfl, ?_, ?_, ?_, ?_, ?_, ?_, ?_, ?_, ?_, ?_⟩
    all_goals (try simp only [wk, wl, wx, reduceLT, reduceEqDiff, Nat.reduceBEq, reduceIte, t0, t3, t4, t5, t6, t101, t102, t103, Bool.true_or, Bool.false_or, Bool.true_and, Bool.false_and])
    all_goals (first | done | rfl | trivial)
   clear t0 t3 t4 t5 t6 t101 t102 t103
   rintro fr hM ⟨hhe, ts, rfl, t0, t3, t4, t5, t6, t8, t101, t102, t103, tB⟩
   subst hM
   simp only [List.drop_succ_cons, List.drop_zero]
   refine WPlan_two 10 (M := fun fr hM => hM = h6 ∧ ∃ ts, fr = ⟨ts, 220, [], 52, none⟩ ∧ ts.get 0 = some (.ptr b o0) ∧ ts.get 3 = some (.int .i64 x.bytes.length) ∧ ts.get 4 = some (ev) ∧ ts.get 5 = some (.nils) ∧ ts.get 6 = some (.map hh.next) ∧ ts.get 8 = some (.ptr hq.next 0) ∧ ts.get 101 = some (c.exps) ∧ ts.get 102 = some (.int .i64 x.exps.length) ∧ ts.get 103 = some (.int .i64 i) ∧ ts.get 124 = some (.bool ((decide (x.exps[i].addr < x.base) || decide (x.base + x.bytes.length < x.exps[i].addr))))) rfl ?_ ?_
   ·skip
    cases hB : decide (x.exps[i].addr < x.base) with
    | true =>
     rw [hB] at tB
     (try simp (maxSteps := 2000000) only [wk, wl, wx, reduceLT, reduceEqDiff, Nat.reduceBEq, reduceIte, wd, Chk, and_true, true_and, List.take_succ_cons, List.take_zero, un, t0, t3, t4, t5, t6, t8, t101, t102, t103, hB, tB, fa41_1, fa32_0, Nat.zero_add, k0, k1, bin_add, w2])
     first | refine ⟨by trivial, _, rfl, ?_, ?_, ?_, ?_, ?_, ?_, ?_, ?_, ?_, ?_⟩ | refine ⟨_, rfl, ?_, ?_, ?_, ?_, ?_, ?_, ?_, ?_, ?_, ?_⟩
     all_goals (try simp only [wk, wl, wx, reduceLT, reduceEqDiff, Nat.reduceBEq, reduceIte, t0, t3, t4, t5, t6, t8, t101, t102, t103, hB, tB, Bool.true_or, Bool.false_or, Bool.true_and, Bool.false_and])
     all_goals (first | done | rfl | trivial)
    | false =>
     rw [hB] at tB
     (try simp (maxSteps := 2000000) only [wk, wl, wx, reduceLT, reduceEqDiff, Nat.reduceBEq, reduceIte, wd, Chk, and_true, true_and, List.take_succ_cons, List.take_zero, un, t0, t3, t4, t5, t6, t8, t101, t102, t103, hB, tB, fa41_1, fa32_0, Nat.zero_add, k0, k1, bin_add, w2])
     first | refine ⟨by trivial, _, rfl, ?_, ?_, ?_, ?_, ?_, ?_, ?_, ?_, ?_, ?_⟩ | refine ⟨_, rfl, ?_, ?_, ?_, ?_, ?_, ?_, ?_, ?_, ?_, ?_⟩
     all_goals (try simp only [wk, wl, wx, reduceLT, reduceEqDiff, Nat.reduceBEq, reduceIte, t0, t3, t4, t5, t6, t8, t101, t102, t103, hB, tB, Bool.true_or, Bool.false_or, Bool.true_and, Bool.false_and])
     all_goals (first | done | rfl | trivial)
   clear t0 t3 t4 t5 t6 t8 t101 t102 t103 tB
   rintro fr hM ⟨hhe, ts, rfl, t0, t3, t4, t5, t6, t8, t101, t102, t103, tB⟩
   subst hM
   simp only [List.drop_succ_cons, List.drop_zero]
   (try simp (maxSteps := 2000000) only [wk, wl, wx, reduceLT, reduceEqDiff, Nat.reduceBEq, reduceIte, wd, Chk, and_true, true_and])
   (repeat refine WC.seq ?_)
   cases hB : (decide (x.exps[i].addr < x.base) || decide (x.base + x.bytes.length < x.exps[i].addr)) with
   | true =>
    refine WC.cond (b := true) (by (try simp only [wk, wl, wx, reduceLT, reduceEqDiff, Nat.reduceBEq, reduceIte, tB, hB]); (try rfl)) ?_
    ((repeat refine WC.seq ?_); refine WC.run ?_)
    (try simp only [wk, wl, wx, reduceLT, reduceEqDiff, Nat.reduceBEq, reduceIte])
    refine WC.ret ?_
    (try simp only [wk, wl, wx, reduceLT, reduceEqDiff, Nat.reduceBEq, reduceIte])
    refine ⟨?_, f1.trans ((fq.trans (F6.sub fun x hx => by omega)).sub fun x hx => by omega)⟩
    simp only [Bool.or_eq_true, decide_eq_true_eq] at hB
    have : expP x i = false := by
     refine Bool.eq_false_iff.2 fun h' => ?_
     simp only [expP, hg, Bool.and_eq_true, decide_eq_true_eq] at h'
     omega
    rw [rightB, hH, allB_false hlt this, Bool.false_and, Bool.and_false]
   | false =>
   refine WC.cond (b := false) (by (try simp only [wk, wl, wx, reduceLT, reduceEqDiff, Nat.reduceBEq, reduceIte, tB, hB]); (try rfl)) (WC.skip ?_)
   (try simp only [wk, wl, wx, reduceLT, reduceEqDiff, Nat.reduceBEq, reduceIte])
   clear tB
   simp only [Bool.or_eq_false_iff, decide_eq_false_iff_not] at hB
   obtain ⟨q1, q2⟩ := hB
   ((repeat refine WC.seq ?_); refine WC.run ?_)
   (try simp only [wk, wl, wx, reduceLT, reduceEqDiff, Nat.reduceBEq, reduceIte, t4, t8, fa41_0, Nat.zero_add, k2])
   refine sat_slice1 ty30 rfl ty9 rfl rfl rfl ?_
   intro h7 b7 n7 f7
   have bu7 := (bu.fix (nw.sub fun _ hx => hx.2) F6).fix (nw.sub fun b hx => (by omega : b < h6.next)) f7
   (try simp only [wk, wl, wx, reduceLT, reduceEqDiff, Nat.reduceBEq, reduceIte, t4])
   refine sat_grow bu7 (nw.sub fun b hx => (by omega : b < h7.next)) ty30 rfl ty30 (.inl ⟨_, rfl⟩) ty9 rfl (by decide) (by decide) b7.sl.len b7.sl.cells (by rfl) (by rfl) (by simp; omega) ?_
   intro sw h8 g8
   have x8 := g8.fix.next
   have w8 : In (fun b => h1.next ≤ b ∧ b < h8.next) sw := fun b o n c e => ⟨by
    rcases g8.own _ _ _ _ e with q | ⟨o, k, c, q⟩
    ·omega
    ·exact (nw _ _ _ _ q).1, g8.low _ _ _ _ e⟩
   (try simp only [wk, wl, wx, reduceLT, reduceEqDiff, Nat.reduceBEq, reduceIte])
   ((repeat refine WC.seq ?_); refine WC.run ?_)
   (try simp only [wk, wl, wx, reduceLT, reduceEqDiff, Nat.reduceBEq, reduceIte, t103, bin_add])
   refine ⟨_, ?_, _, i + 1, sw, rfl, ⟨by omega, fun b hb => ?_⟩, rfl, by omega, ?_⟩
   ·omega
   ·rw [g8.fix.same b ⟨by omega, fun o m cc e => by have := nw _ _ _ _ e; omega⟩, f7.same b (by omega), F6.same b (by omega), fq.same b hb]
   (try simp only [wk, wl, wx, reduceLT, reduceEqDiff, Nat.reduceBEq, reduceIte, t0, t3, t5, t6, t101, t102])
   refine ⟨trivial, trivial, trivial, trivial, trivial, trivial, trivial, ?_, ?_, w8, below_succ hal (by simp only [expP, hg]; simp; omega)⟩
   ·rw [wrap64 (by omega) (by omega)]; rfl
   ·rw [map_snoc (fun e : ExpD => V.str e.name) hlt]
    exact g8.buf
  ·refine WC.cond (b := false) (by (try simp only [wk, wl, wx, reduceLT, reduceEqDiff, Nat.reduceBEq, reduceIte]); (try simp); (try omega)) (WC.exit ?_)
   have : i = x.exps.length := by omega
   subst this
   rw [List.take_length] at bu
   have hX := allB_true hal
   (try simp only [wk, wl, wx, reduceLT, reduceEqDiff, Nat.reduceBEq, reduceIte])
   have bus := bu
   have nus := nw
   have Kq : Kept hh hq := f1.trans (fq.sub fun x hx => by omega)
   have mq := m1.fix fq (show hh.next < h1.next by omega)
   ((repeat refine WC.seq ?_); refine WC.run ?_)
   (try simp only [wk, wl, wx, reduceLT, reduceEqDiff, Nat.reduceBEq, reduceIte, t0, fa32_5, Nat.zero_add, Bq.at ty29 rfl (j := 5) (by simp), Sl.lenB imq.slots ty29 rfl])
   (repeat refine WC.seq ?_)
   refine WC.block ?_
   refine WC.while (fun m fr hk => ∃ ts i sv, fr = ⟨ts, 220, [], 52, none⟩ ∧ Fix (fun b => b < hq.next ∧ b ≠ hh.next) hq hk ∧ m = x.slots.length - i ∧ i ≤ x.slots.length ∧ ts.get 0 = some (.ptr b o0) ∧ ts.get 3 = some (.int .i64 x.bytes.length) ∧ ts.get 4 = some ev ∧ ts.get 5 = some sv ∧ ts.get 6 = some (.map hh.next) ∧ ts.get 134 = some c.slots ∧ ts.get 135 = some (.int .i64 x.slots.length) ∧ ts.get 136 = some (.int .i64 i) ∧ Mi hk hh.next ((x.slots.take i).map (·.addr)) ∧ Buf (E g) hk 9 1 sv i ((x.slots.take i).map fun e => V.str e.name) ∧ In (fun b => hq.next ≤ b ∧ b < hk.next) sv ∧ ∀ j, j < i → slotP x j = true) ?_ ⟨_, 0, .nils, rfl, Fix.refl _ _, rfl, by omega, ?_, ?_, ?_, ?_, ?_, ?_, ?_, ?_, mq, .nil, In.nils, fun j hj => absurd hj (Nat.not_lt_zero _)⟩
   ·rintro m fr hk ⟨ts, i, sv, rfl, fk, rfl, hi, t0, t3, t4, t5, t6, t134, t135, t136, mk, bu, nw, hal⟩
    have xk := fk.next
    have Bk := Bq.fix fk ⟨by omega, by omega⟩
    have imk := ((im.fix f1 (fun _ h => h)).fix fq (fun x hx => by omega)).fix fk (fun x hx => ⟨by omega, by omega⟩)
    ((repeat refine WC.seq ?_); refine WC.run ?_)
    (try simp only [wk, wl, wx, reduceLT, reduceEqDiff, Nat.reduceBEq, reduceIte, t135, t136])
    (repeat refine WC.seq ?_)
    by_cases hlt : i < x.slots.length
    ·refine WC.cond (b := true) (by (try simp only [wk, wl, wx, reduceLT, reduceEqDiff, Nat.reduceBEq, reduceIte]); (try simp); (try omega)) (WC.skip ?_)
     (try simp only [wk, wl, wx, reduceLT, reduceEqDiff, Nat.reduceBEq, reduceIte])
     obtain ⟨p, p1, p2⟩ := imk.slots.at slotV_length ty29 rfl ty43 rfl (by decide) rfl hlt
     have p2 := p2 hk fun _ _ _ _ _ => rfl
     have hg : x.slots[i]? = some x.slots[i] := List.getElem?_eq_getElem hlt
     (repeat refine WC.seq ?_)
     refine WC.block ?_
     ((repeat refine WC.seq ?_); refine WC.run ?_)
     (try simp only [wk, wl, wx, reduceLT, reduceEqDiff, Nat.reduceBEq, reduceIte, t134, t136, p1, p2])
     refine wop_alloc ty43 ?_
     intro h5 b5 n5 f5
     (try simp only [wk, wl, wx, reduceLT, reduceEqDiff, Nat.reduceBEq, reduceIte])
     refine sat_store b5 ty43 rfl (by decide) rfl ?_
     intro h6 b6 n6 f6
     have b6 : Has h6 hk.next (slotV x.slots[i]) := b6
     have F6 : Fix (· < hk.next) hk h6 := ⟨by omega, fun c hc => by rw [f6.same c (by omega), f5.same c (by omega)]⟩
     have B6 := Bk.fix F6 (by omega)
     have m6 := mk.fix F6 (show hh.next < hk.next by omega)
     have k0 : loadP (E g) h6 2 (.ptr b (o0 + 0)) = some (.int .i64 x.base) := B6.at ty2 rfl (j := 0) (by simp)
     have k1 : loadP (E g) h6 2 (.ptr hk.next 1) = some (.int .i64 x.slots[i].addr) := b6.at ty2 rfl 1
     have k2 : loadP (E g) h6 9 (.ptr hk.next 0) = some (.str x.slots[i].name) := b6.at ty9 rfl 0
     have k3 : loadP (E g) h6 2 (.ptr hk.next 2) = some (.int .i64 x.slots[i].bound) := b6.at ty2 rfl 2
     have km : lookupV (E g) h6 196 (.map hh.next) (.int .i64 x.slots[i].addr) false = some (.bool (((x.slots.take i).map (·.addr)).contains x.slots[i].addr)) := lookup_int m6 ty196 rfl ty2 rfl ty4 rfl
     have K6 : Kept hh h6 := Kq.trans ((fk.trans (F6.sub fun x hx => by omega)).sub fun x hx => ⟨by omega, by omega⟩)
     (try simp only [wk, wl, wx, reduceLT, reduceEqDiff, Nat.reduceBEq, reduceIte])
     ((repeat refine WC.seq ?_); refine WC.draw (plans := pl52_18) (by kernel_rfl) ?_; simp only [pl52_18, List.mem_cons, List.not_mem_nil, or_false, forall_eq_or_imp, forall_eq])
     refine WPlan_two 8 (M := fun fr hM => hM = h6 ∧ ∃ ts, fr = ⟨ts, 220, [], 52, none⟩ ∧ ts.get 0 = some (.ptr b o0) ∧ ts.get 3 = some (.int .i64 x.bytes.length) ∧ ts.get 4 = some (ev) ∧ ts.get 5 = some (sv) ∧ ts.get 6 = some (.map hh.next) ∧ ts.get 10 = some (.ptr hk.next 0) ∧ ts.get 134 = some (c.slots) ∧ ts.get 135 = some (.int .i64 x.slots.length) ∧ ts.get 136 = some (.int .i64 i) ∧ ts.get 147 = some (.bool (decide (x.slots[i].addr < x.base)))) rfl ?_ ?_
     ·skip
      (try simp (maxSteps := 2000000) only [wk, wl, wx, reduceLT, reduceEqDiff, Nat.reduceBEq, reduceIte, wd, Chk, and_true, true_and, List.take_succ_cons, List.take_zero, un, t0, t3, t4, t5, t6, t134, t135, t136, fa43_1, fa43_2, fa32_0, Nat.zero_add, k0, k1, k3, bin_add, bin_sub, w2, w3, r8, w_lookup, km])
      first | refine ⟨by trivial, _, rfl, ?_, ?_, ?_, ?_, ?_, ?_, ?_, ?_, ?_, ?_⟩ | refine ⟨_, rfl, ?_, ?_, ?_, ?_, ?_, ?_, ?_, ?_, ?_, ?_⟩
      all_goals (try simp only [wk, wl, wx, reduceLT, reduceEqDiff, Nat.reduceBEq, reduceIte, t0, t3, t4, t5, t6, t134, t135, t136, Bool.true_or, Bool.false_or, Bool.true_and, Bool.false_and])
      all_goals (first | done | rfl | trivial)
     clear t0 t3 t4 t5 t6 t134 t135 t136
     rintro fr hM ⟨hhe, ts, rfl, t0, t3, t4, t5, t6, t10, t134, t135, t136, tB⟩
     subst hM
     simp only [List.drop_succ_cons, List.drop_zero]
     refine WPlan_two 12 (M := fun fr hM => hM = h6 ∧ ∃ ts, fr = ⟨ts, 220, [], 52, none⟩ ∧ ts.get 0 = some (.ptr b o0) ∧ ts.get 3 = some (.int .i64 x.bytes.length) ∧ ts.get 4 = some (ev) ∧ ts.get 5 = some (sv) ∧ ts.get 6 = some (.map hh.next) ∧ ts.get 10 = some (.ptr hk.next 0) ∧ ts.get 134 = some (c.slots) ∧ ts.get 135 = some (.int .i64 x.slots.length) ∧ ts.get 136 = some (.int .i64 i) ∧ ts.get 159 = some (.bool ((decide (x.slots[i].addr < x.base) || decide (x.base + x.bytes.length - 8 < x.slots[i].addr))))) rfl ?_ ?_
     ·skip
      cases hB : decide (x.slots[i].addr < x.base) with
      | true =>
       rw [hB] at tB
       (try simp (maxSteps := 2000000) only [wk, wl, wx, reduceLT, reduceEqDiff, Nat.reduceBEq, reduceIte, wd, Chk, and_true, true_and, List.take_succ_cons, List.take_zero, un, t0, t3, t4, t5, t6, t10, t134, t135, t136, hB, tB, fa43_1, fa43_2, fa32_0, Nat.zero_add, k0, k1, k3, bin_add, bin_sub, w2, w3, r8, w_lookup, km])
       first | refine ⟨by trivial, _, rfl, ?_, ?_, ?_, ?_, ?_, ?_, ?_, ?_, ?_, ?_⟩ | refine ⟨_, rfl, ?_, ?_, ?_, ?_, ?_, ?_, ?_, ?_, ?_, ?_⟩
       all_goals (try simp only [wk, wl, wx, reduceLT, reduceEqDiff, Nat.reduceBEq, reduceIte, t0, t3, t4, t5, t6, t10, t134, t135, t136, hB, tB, Bool.true_or, Bool.false_or, Bool.true_and, Bool.false_and])
       all_goals (first | done | rfl | trivial)
      | false =>
       rw [hB] at tB
       (try simp (maxSteps := 2000000) only [wk, wl, wx, reduceLT, reduceEqDiff, Nat.reduceBEq, reduceIte, wd, Chk, and_true, true_and, List.take_succ_cons, List.take_zero, un, t0, t3, t4, t5, t6, t10, t134, t135, t136, hB, tB, fa43_1, fa43_2, fa32_0, Nat.zero_add, k0, k1, k3, bin_add, bin_sub, w2, w3, r8, w_lookup, km])
       first | refine ⟨by trivial, _, rfl, ?_, ?_, ?_, ?_, ?_, ?_, ?_, ?_, ?_, ?_⟩ | refine ⟨_, rfl, ?_, ?_, ?_, ?_, ?_, ?_, ?_, ?_, ?_, ?_⟩
       all_goals (try simp only [wk, wl, wx, reduceLT, reduceEqDiff, Nat.reduceBEq, reduceIte, t0, t3, t4, t5, t6, t10, t134, t135, t136, hB, tB, Bool.true_or, Bool.false_or, Bool.true_and, Bool.false_and])
       all_goals (first | done | rfl | trivial)
     clear t0 t3 t4 t5 t6 t10 t134 t135 t136 tB
     rintro fr hM ⟨hhe, ts, rfl, t0, t3, t4, t5, t6, t10, t134, t135, t136, tB⟩
     subst hM
     simp only [List.drop_succ_cons, List.drop_zero]
     refine WPlan_two 6 (M := fun fr hM => hM = h6 ∧ ∃ ts, fr = ⟨ts, 220, [], 52, none⟩ ∧ ts.get 0 = some (.ptr b o0) ∧ ts.get 3 = some (.int .i64 x.bytes.length) ∧ ts.get 4 = some (ev) ∧ ts.get 5 = some (sv) ∧ ts.get 6 = some (.map hh.next) ∧ ts.get 10 = some (.ptr hk.next 0) ∧ ts.get 134 = some (c.slots) ∧ ts.get 135 = some (.int .i64 x.slots.length) ∧ ts.get 136 = some (.int .i64 i) ∧ ts.get 165 = some (.bool (((decide (x.slots[i].addr < x.base) || decide (x.base + x.bytes.length - 8 < x.slots[i].addr)) || (x.slots[i].addr.tmod 8 != 0))))) rfl ?_ ?_
     ·skip
      cases hB : (decide (x.slots[i].addr < x.base) || decide (x.base + x.bytes.length - 8 < x.slots[i].addr)) with
      | true =>
       rw [hB] at tB
       (try simp (maxSteps := 2000000) only [wk, wl, wx, reduceLT, reduceEqDiff, Nat.reduceBEq, reduceIte, wd, Chk, and_true, true_and, List.take_succ_cons, List.take_zero, un, t0, t3, t4, t5, t6, t10, t134, t135, t136, hB, tB, fa43_1, fa43_2, fa32_0, Nat.zero_add, k0, k1, k3, bin_add, bin_sub, w2, w3, r8, w_lookup, km])
       first | refine ⟨by trivial, _, rfl, ?_, ?_, ?_, ?_, ?_, ?_, ?_, ?_, ?_, ?_⟩ | refine ⟨_, rfl, ?_, ?_, ?_, ?_, ?_, ?_, ?_, ?_, ?_, ?_⟩
       all_goals (try simp only [wk, wl, wx, reduceLT, reduceEqDiff, Nat.reduceBEq, reduceIte, t0, t3, t4, t5, t6, t10, t134, t135, t136, hB, tB, Bool.true_or, Bool.false_or, Bool.true_and, Bool.false_and])
       all_goals (first | done | rfl | trivial)
      | false =>
       rw [hB] at tB
       (try simp (maxSteps := 2000000) only [wk, wl, wx, reduceLT, reduceEqDiff, Nat.reduceBEq, reduceIte, wd, Chk, and_true, true_and, List.take_succ_cons, List.take_zero, un, t0, t3, t4, t5, t6, t10, t134, t135, t136, hB, tB, fa43_1, fa43_2, fa32_0, Nat.zero_add, k0, k1, k3, bin_add, bin_sub, w2, w3, r8, w_lookup, km])
       first | refine ⟨by trivial, _, rfl, ?_, ?_, ?_, ?_, ?_, ?_, ?_, ?_, ?_, ?_⟩ | refine ⟨_, rfl, ?_, ?_, ?_, ?_, ?_, ?_, ?_, ?_, ?_, ?_⟩
       all_goals (try simp only [wk, wl, wx, reduceLT, reduceEqDiff, Nat.reduceBEq, reduceIte, t0, t3, t4, t5, t6, t10, t134, t135, t136, hB, tB, Bool.true_or, Bool.false_or, Bool.true_and, Bool.false_and])
       all_goals (first | done | rfl | trivial)
     clear t0 t3 t4 t5 t6 t10 t134 t135 t136 tB
     rintro fr hM ⟨hhe, ts, rfl, t0, t3, t4, t5, t6, t10, t134, t135, t136, tB⟩
     subst hM
     simp only [List.drop_succ_cons, List.drop_zero]
     refine WPlan_two 5 (M := fun fr hM => hM = h6 ∧ ∃ ts, fr = ⟨ts, 220, [], 52, none⟩ ∧ ts.get 0 = some (.ptr b o0) ∧ ts.get 3 = some (.int .i64 x.bytes.length) ∧ ts.get 4 = some (ev) ∧ ts.get 5 = some (sv) ∧ ts.get 6 = some (.map hh.next) ∧ ts.get 10 = some (.ptr hk.next 0) ∧ ts.get 134 = some (c.slots) ∧ ts.get 135 = some (.int .i64 x.slots.length) ∧ ts.get 136 = some (.int .i64 i) ∧ ts.get 170 = some (.bool ((((decide (x.slots[i].addr < x.base) || decide (x.base + x.bytes.length - 8 < x.slots[i].addr)) || (x.slots[i].addr.tmod 8 != 0)) || decide (x.slots[i].bound < 0))))) rfl ?_ ?_
     ·skip
      cases hB : ((decide (x.slots[i].addr < x.base) || decide (x.base + x.bytes.length - 8 < x.slots[i].addr)) || (x.slots[i].addr.tmod 8 != 0)) with
      | true =>
       rw [hB] at tB
       (try simp (maxSteps := 2000000) only [wk, wl, wx, reduceLT, reduceEqDiff, Nat.reduceBEq, reduceIte, wd, Chk, and_true, true_and, List.take_succ_cons, List.take_zero, un, t0, t3, t4, t5, t6, t10, t134, t135, t136, hB, tB, fa43_1, fa43_2, fa32_0, Nat.zero_add, k0, k1, k3, bin_add, bin_sub, w2, w3, r8, w_lookup, km])
       first | refine ⟨by trivial, _, rfl, ?_, ?_, ?_, ?_, ?_, ?_, ?_, ?_, ?_, ?_⟩ | refine ⟨_, rfl, ?_, ?_, ?_, ?_, ?_, ?_, ?_, ?_, ?_, ?_⟩
       all_goals (try simp only [wk, wl, wx, reduceLT, reduceEqDiff, Nat.reduceBEq, reduceIte, t0, t3, t4, t5, t6, t10, t134, t135, t136, hB, tB, Bool.true_or, Bool.false_or, Bool.true_and, Bool.false_and])
       all_goals (first | done | rfl | trivial)
      | false =>
       rw [hB] at tB
       (try simp (maxSteps := 2000000) only [wk, wl, wx, reduceLT, reduceEqDiff, Nat.reduceBEq, reduceIte, wd, Chk, and_true, true_and, List.take_succ_cons, List.take_zero, un, t0, t3, t4, t5, t6, t10, t134, t135, t136, hB, tB, fa43_1, fa43_2, fa32_0, Nat.zero_add, k0, k1, k3, bin_add, bin_sub, w2, w3, r8, w_lookup, km])
       first | refine ⟨by trivial, _, rfl, ?_, ?_, ?_, ?_, ?_, ?_, ?_, ?_, ?_, ?_⟩ | refine ⟨_, rfl, ?_, ?_, ?_, ?_, ?_, ?_, ?_, ?_, ?_, ?_⟩
       all_goals (try simp only [wk, wl, wx, reduceLT, reduceEqDiff, Nat.reduceBEq, reduceIte, t0, t3, t4, t5, t6, t10, t134, t135, t136, hB, tB, Bool.true_or, Bool.false_or, Bool.true_and, Bool.false_and])
       all_goals (first | done | rfl | trivial)
     clear t0 t3 t4 t5 t6 t10 t134 t135 t136 tB
     rintro fr hM ⟨hhe, ts, rfl, t0, t3, t4, t5, t6, t10, t134, t135, t136, tB⟩
     subst hM
     simp only [List.drop_succ_cons, List.drop_zero]
     refine WPlan_two 5 (M := fun fr hM => hM = h6 ∧ ∃ ts, fr = ⟨ts, 220, [], 52, none⟩ ∧ ts.get 0 = some (.ptr b o0) ∧ ts.get 3 = some (.int .i64 x.bytes.length) ∧ ts.get 4 = some (ev) ∧ ts.get 5 = some (sv) ∧ ts.get 6 = some (.map hh.next) ∧ ts.get 10 = some (.ptr hk.next 0) ∧ ts.get 134 = some (c.slots) ∧ ts.get 135 = some (.int .i64 x.slots.length) ∧ ts.get 136 = some (.int .i64 i) ∧ ts.get 175 = some (.bool (((((decide (x.slots[i].addr < x.base) || decide (x.base + x.bytes.length - 8 < x.slots[i].addr)) || (x.slots[i].addr.tmod 8 != 0)) || decide (x.slots[i].bound < 0)) || decide ((4294967296 : Int) < x.slots[i].bound))))) rfl ?_ ?_
     ·skip
      cases hB : (((decide (x.slots[i].addr < x.base) || decide (x.base + x.bytes.length - 8 < x.slots[i].addr)) || (x.slots[i].addr.tmod 8 != 0)) || decide (x.slots[i].bound < 0)) with
      | true =>
       rw [hB] at tB
       (try simp (maxSteps := 2000000) only [wk, wl, wx, reduceLT, reduceEqDiff, Nat.reduceBEq, reduceIte, wd, Chk, and_true, true_and, List.take_succ_cons, List.take_zero, un, t0, t3, t4, t5, t6, t10, t134, t135, t136, hB, tB, fa43_1, fa43_2, fa32_0, Nat.zero_add, k0, k1, k3, bin_add, bin_sub, w2, w3, r8, w_lookup, km])
       first | refine ⟨by trivial, _, rfl, ?_, ?_, ?_, ?_, ?_, ?_, ?_, ?_, ?_, ?_⟩ | refine ⟨_, rfl, ?_, ?_, ?_, ?_, ?_, ?_, ?_, ?_, ?_, ?_⟩
       all_goals (try simp only [wk, wl, wx, reduceLT, reduceEqDiff, Nat.reduceBEq, reduceIte, t0, t3, t4, t5, t6, t10, t134, t135, t136, hB, tB, Bool.true_or, Bool.false_or, Bool.true_and, Bool.false_and])
       all_goals (first | done | rfl | trivial)
      | false =>
       rw [hB] at tB
       (try simp (maxSteps := 2000000) only [wk, wl, wx, reduceLT, reduceEqDiff, Nat.reduceBEq, reduceIte, wd, Chk, and_true, true_and, List.take_succ_cons, List.take_zero, un, t0, t3, t4, t5, t6, t10, t134, t135, t136, hB, tB, fa43_1, fa43_2, fa32_0, Nat.zero_add, k0, k1, k3, bin_add, bin_sub, w2, w3, r8, w_lookup, km])
       first | refine ⟨by trivial, _, rfl, ?_, ?_, ?_, ?_, ?_, ?_, ?_, ?_, ?_, ?_⟩ | refine ⟨_, rfl, ?_, ?_, ?_, ?_, ?_, ?_, ?_, ?_, ?_, ?_⟩
       all_goals (try simp only [wk, wl, wx, reduceLT, reduceEqDiff, Nat.reduceBEq, reduceIte, t0, t3, t4, t5, t6, t10, t134, t135, t136, hB, tB, Bool.true_or, Bool.false_or, Bool.true_and, Bool.false_and])
       all_goals (first | done | rfl | trivial)
     clear t0 t3 t4 t5 t6 t10 t134 t135 t136 tB
     rintro fr hM ⟨hhe, ts, rfl, t0, t3, t4, t5, t6, t10, t134, t135, t136, tB⟩
     subst hM
     simp only [List.drop_succ_cons, List.drop_zero]
     refine WPlan_two 5 (M := fun fr hM => hM = h6 ∧ ∃ ts, fr = ⟨ts, 220, [], 52, none⟩ ∧ ts.get 0 = some (.ptr b o0) ∧ ts.get 3 = some (.int .i64 x.bytes.length) ∧ ts.get 4 = some (ev) ∧ ts.get 5 = some (sv) ∧ ts.get 6 = some (.map hh.next) ∧ ts.get 10 = some (.ptr hk.next 0) ∧ ts.get 134 = some (c.slots) ∧ ts.get 135 = some (.int .i64 x.slots.length) ∧ ts.get 136 = some (.int .i64 i) ∧ ts.get 180 = some (.bool ((((((decide (x.slots[i].addr < x.base) || decide (x.base + x.bytes.length - 8 < x.slots[i].addr)) || (x.slots[i].addr.tmod 8 != 0)) || decide (x.slots[i].bound < 0)) || decide ((4294967296 : Int) < x.slots[i].bound)) || ((x.slots.take i).map (·.addr)).contains x.slots[i].addr)))) rfl ?_ ?_
     ·skip
      cases hB : ((((decide (x.slots[i].addr < x.base) || decide (x.base + x.bytes.length - 8 < x.slots[i].addr)) || (x.slots[i].addr.tmod 8 != 0)) || decide (x.slots[i].bound < 0)) || decide ((4294967296 : Int) < x.slots[i].bound)) with
      | true =>
       rw [hB] at tB
       (try simp (maxSteps := 2000000) only [wk, wl, wx, reduceLT, reduceEqDiff, Nat.reduceBEq, reduceIte, wd, Chk, and_true, true_and, List.take_succ_cons, List.take_zero, un, t0, t3, t4, t5, t6, t10, t134, t135, t136, hB, tB, fa43_1, fa43_2, fa32_0, Nat.zero_add, k0, k1, k3, bin_add, bin_sub, w2, w3, r8, w_lookup, km])
       first | refine ⟨by trivial, _, rfl, ?_, ?_, ?_, ?_, ?_, ?_, ?_, ?_, ?_, ?_⟩ | refine ⟨_, rfl, ?_, ?_, ?_, ?_, ?_, ?_, ?_, ?_, ?_, ?_⟩
       all_goals (try simp only [wk, wl, wx, reduceLT, reduceEqDiff, Nat.reduceBEq, reduceIte, t0, t3, t4, t5, t6, t10, t134, t135, t136, hB, tB, Bool.true_or, Bool.false_or, Bool.true_and, Bool.false_and])
       all_goals (first | done | rfl | trivial)
      | false =>
       rw [hB] at tB
       (try simp (maxSteps := 2000000) only [wk, wl, wx, reduceLT, reduceEqDiff, Nat.reduceBEq, reduceIte, wd, Chk, and_true, true_and, List.take_succ_cons, List.take_zero, un, t0, t3, t4, t5, t6, t10, t134, t135, t136, hB, tB, fa43_1, fa43_2, fa32_0, Nat.zero_add, k0, k1, k3, bin_add, bin_sub, w2, w3, r8, w_lookup, km])
       first | refine ⟨by trivial, _, rfl, ?_, ?_, ?_, ?_, ?_, ?_, ?_, ?_, ?_, ?_⟩ | refine ⟨_, rfl, ?_, ?_, ?_, ?_, ?_, ?_, ?_, ?_, ?_, ?_⟩
       all_goals (try simp only [wk, wl, wx, reduceLT, reduceEqDiff, Nat.reduceBEq, reduceIte, t0, t3, t4, t5, t6, t10, t134, t135, t136, hB, tB, Bool.true_or, Bool.false_or, Bool.true_and, Bool.false_and])
       all_goals (first | done | rfl | trivial)
     clear t0 t3 t4 t5 t6 t10 t134 t135 t136 tB
     rintro fr hM ⟨hhe, ts, rfl, t0, t3, t4, t5, t6, t10, t134, t135, t136, tB⟩
     subst hM
     simp only [List.drop_succ_cons, List.drop_zero]
     (try simp (maxSteps := 2000000) only [wk, wl, wx, reduceLT, reduceEqDiff, Nat.reduceBEq, reduceIte, wd, Chk, and_true, true_and])
     (repeat refine WC.seq ?_)
     cases hB : (((((decide (x.slots[i].addr < x.base) || decide (x.base + x.bytes.length - 8 < x.slots[i].addr)) || (x.slots[i].addr.tmod 8 != 0)) || decide (x.slots[i].bound < 0)) || decide ((4294967296 : Int) < x.slots[i].bound)) || ((x.slots.take i).map (·.addr)).contains x.slots[i].addr) with
     | true =>
      refine WC.cond (b := true) (by (try simp only [wk, wl, wx, reduceLT, reduceEqDiff, Nat.reduceBEq, reduceIte, tB, hB]); (try rfl)) ?_
      ((repeat refine WC.seq ?_); refine WC.run ?_)
      (try simp only [wk, wl, wx, reduceLT, reduceEqDiff, Nat.reduceBEq, reduceIte])
      refine WC.ret ?_
      (try simp only [wk, wl, wx, reduceLT, reduceEqDiff, Nat.reduceBEq, reduceIte])
      refine ⟨?_, K6⟩
      simp only [Bool.or_eq_true, decide_eq_true_eq, bne_iff_ne, ne_eq] at hB
      have : slotP x i = false := by
       refine Bool.eq_false_iff.2 fun h' => ?_
       simp only [slotP, hg, Bool.and_eq_true, decide_eq_true_eq, Bool.not_eq_true'] at h'
       obtain ⟨s1, s2, s3, s4, s5, s6⟩ := h'
       rcases hB with (((((hB | hB) | hB) | hB) | hB) | hB)
       all_goals (first | omega | exact hB s3 | (rw [s6] at hB; cases hB))
      rw [rightB, hH, hX, allB_false hlt this, Bool.false_and, Bool.and_false, Bool.and_false]
     | false =>
     refine WC.cond (b := false) (by (try simp only [wk, wl, wx, reduceLT, reduceEqDiff, Nat.reduceBEq, reduceIte, tB, hB]); (try rfl)) (WC.skip ?_)
     (try simp only [wk, wl, wx, reduceLT, reduceEqDiff, Nat.reduceBEq, reduceIte])
     clear tB
     simp only [Bool.or_eq_false_iff, decide_eq_false_iff_not, bne_eq_false_iff_eq] at hB
     obtain ⟨⟨⟨⟨⟨q1, q2⟩, q3⟩, q4⟩, q5⟩, q6⟩ := hB
     have hP : slotP x i = true := by
      have q3' : x.slots[i].addr.tmod 8 = 0 := q3
      simp only [slotP, hg]
      rw [decide_eq_true (show x.base ≤ x.slots[i].addr by omega), decide_eq_true (show x.slots[i].addr ≤ x.base + x.bytes.length - 8 by omega), decide_eq_true q3', decide_eq_true (show (0 : Int) ≤ x.slots[i].bound by omega), decide_eq_true (show x.slots[i].bound ≤ 4294967296 by omega), q6]
      rfl
     ((repeat refine WC.seq ?_); refine WC.run ?_)
     (try simp only [wk, wl, wx, reduceLT, reduceEqDiff, Nat.reduceBEq, reduceIte, t6, t10, fa43_1, Nat.zero_add, k1, w_mapUpdate])
     refine sat_update_int m6 q6 ty196 rfl ty2 rfl ty4 ?_
     intro hu mu nu fu
     have k2u : loadP (E g) hu 9 (.ptr hk.next 0) = some (.str x.slots[i].name) := (b6.fix fu (by omega)).at ty9 rfl 0
     (try simp only [wk, wl, wx, reduceLT, reduceEqDiff, Nat.reduceBEq, reduceIte])
     ((repeat refine WC.seq ?_); refine WC.run ?_)
     (try simp only [wk, wl, wx, reduceLT, reduceEqDiff, Nat.reduceBEq, reduceIte, t5, t10, fa43_0, Nat.zero_add, k2u])
     refine sat_slice1 ty30 rfl ty9 rfl rfl rfl ?_
     intro h7 b7 n7 f7
     have bu7 := ((bu.fix (nw.sub fun _ hx => hx.2) F6).fix (nw.sub fun b hx => (by omega : b ≠ hh.next)) fu).fix (nw.sub fun b hx => (by omega : b < hu.next)) f7
     (try simp only [wk, wl, wx, reduceLT, reduceEqDiff, Nat.reduceBEq, reduceIte, t5])
     refine sat_grow bu7 (nw.sub fun b hx => (by omega : b < h7.next)) ty30 rfl ty30 (.inl ⟨_, rfl⟩) ty9 rfl (by decide) (by decide) b7.sl.len b7.sl.cells (by rfl) (by rfl) (by simp; omega) ?_
     intro sw h8 g8
     have x8 := g8.fix.next
     have w8 : In (fun b => hq.next ≤ b ∧ b < h8.next) sw := fun b o n c e => ⟨by
      rcases g8.own _ _ _ _ e with q | ⟨o, k, c, q⟩
      ·omega
      ·exact (nw _ _ _ _ q).1, g8.low _ _ _ _ e⟩
     (try simp only [wk, wl, wx, reduceLT, reduceEqDiff, Nat.reduceBEq, reduceIte])
     ((repeat refine WC.seq ?_); refine WC.run ?_)
     (try simp only [wk, wl, wx, reduceLT, reduceEqDiff, Nat.reduceBEq, reduceIte, t136, bin_add])
     refine ⟨_, ?_, _, i + 1, sw, rfl, ⟨by omega, fun b hb => ?_⟩, rfl, by omega, ?_⟩
     ·omega
     ·rw [g8.fix.same b ⟨by omega, fun o m cc e => by have := nw _ _ _ _ e; omega⟩, f7.same b (by omega), fu.same b hb.2, F6.same b (by omega), fk.same b hb]
     (try simp only [wk, wl, wx, reduceLT, reduceEqDiff, Nat.reduceBEq, reduceIte, t0, t3, t4, t6, t134, t135])
     refine ⟨trivial, trivial, trivial, trivial, trivial, trivial, trivial, ?_, ?_, ?_, w8, below_succ hal hP⟩
     ·rw [wrap64 (by omega) (by omega)]; rfl
     ·rw [map_snoc (fun e : SlotD => e.addr) hlt]
      exact (mu.fix f7 (by omega)).fix g8.fix ⟨by omega, fun o m cc e => by have := nw _ _ _ _ e; omega⟩
     ·rw [map_snoc (fun e : SlotD => V.str e.name) hlt]
      exact g8.buf
    ·refine WC.cond (b := false) (by (try simp only [wk, wl, wx, reduceLT, reduceEqDiff, Nat.reduceBEq, reduceIte]); (try simp); (try omega)) (WC.exit ?_)
     have : i = x.slots.length := by omega
     subst this
     rw [List.take_length] at bu
     have hS := allB_true hal
     (try simp only [wk, wl, wx, reduceLT, reduceEqDiff, Nat.reduceBEq, reduceIte])
     have Kk : Kept hh hk := Kq.trans (fk.sub fun x hx => ⟨by omega, by omega⟩)
     ((repeat refine WC.seq ?_); refine WC.run ?_)
     (try simp only [wk, wl, wx, reduceLT, reduceEqDiff, Nat.reduceBEq, reduceIte, t0, fa32_6, Nat.zero_add, Bk.at ty30 rfl (j := 6) (by simp), Sl.lenB imk.needs ty30 rfl])
     (repeat refine WC.seq ?_)
     refine WC.block ?_
     refine WC.while (fun m fr hn => ∃ ts i, fr = ⟨ts, 220, [], 52, none⟩ ∧ hn = hk ∧ m = x.needs.length - i ∧ i ≤ x.needs.length ∧ ts.get 0 = some (.ptr b o0) ∧ ts.get 4 = some ev ∧ ts.get 5 = some sv ∧ ts.get 193 = some c.needs ∧ ts.get 194 = some (.int .i64 x.needs.length) ∧ ts.get 195 = some (.int .i64 i) ∧ ∀ j, j < i → needP x.needs j = true) ?_ ⟨_, 0, rfl, rfl, rfl, by omega, ?_, ?_, ?_, ?_, ?_, ?_, fun j hj => absurd hj (Nat.not_lt_zero _)⟩
     ·rintro m fr hn ⟨ts, i, rfl, rfl, rfl, hi, t0, t4, t5, t193, t194, t195, hal⟩
      ((repeat refine WC.seq ?_); refine WC.run ?_)
      (try simp only [wk, wl, wx, reduceLT, reduceEqDiff, Nat.reduceBEq, reduceIte, t194, t195])
      (repeat refine WC.seq ?_)
      by_cases hlt : i < x.needs.length
      ·refine WC.cond (b := true) (by (try simp only [wk, wl, wx, reduceLT, reduceEqDiff, Nat.reduceBEq, reduceIte]); (try simp); (try omega)) (WC.skip ?_)
       (try simp only [wk, wl, wx, reduceLT, reduceEqDiff, Nat.reduceBEq, reduceIte])
       obtain ⟨p, p1, p2⟩ := imk.needs.at ty30 rfl ty9 rfl rfl hlt
       have p2 := p2 hn fun _ _ _ _ _ => rfl
       have hg : x.needs[i]? = some x.needs[i] := List.getElem?_eq_getElem hlt
       (repeat refine WC.seq ?_)
       refine WC.block ?_
       ((repeat refine WC.seq ?_); refine WC.run ?_)
       (try simp only [wk, wl, wx, reduceLT, reduceEqDiff, Nat.reduceBEq, reduceIte, t193, t195, p1, p2])
       rcases Bool.eq_false_or_eq_true (nameE x.needs[i] != 0) with q1 | q1
       ·((repeat refine WC.seq ?_); refine WC.run ?_)
        (try simp only [wk, wl, wx, reduceLT, reduceEqDiff, Nat.reduceBEq, reduceIte])
        refine named0_ok.mono fun v h2 ⟨e2, e2'⟩ => ?_
        subst e2 e2'
        (try simp only [wk, wl, wx, reduceLT, reduceEqDiff, Nat.reduceBEq, reduceIte, un, q1])
        (repeat refine WC.seq ?_)
        refine WC.cond (b := true) (by (try simp only [wk, wl, wx, reduceLT, reduceEqDiff, Nat.reduceBEq, reduceIte, q1]); (try simp); (try omega)) ?_
        ((repeat refine WC.seq ?_); refine WC.run ?_)
        (try simp only [wk, wl, wx, reduceLT, reduceEqDiff, Nat.reduceBEq, reduceIte])
        refine WC.ret ?_
        (try simp only [wk, wl, wx, reduceLT, reduceEqDiff, Nat.reduceBEq, reduceIte])
        refine ⟨?_, Kk⟩
        have q1e : ¬ nameE x.needs[i] = 0 := by simpa using q1
        rw [rightB, hH, hX, hS, allB_false hlt (by simp only [needP, hg]; rw [decide_eq_false q1e]; rfl), Bool.false_and, Bool.and_false, Bool.and_false, Bool.and_false]
       ((repeat refine WC.seq ?_); refine WC.run ?_)
       (try simp only [wk, wl, wx, reduceLT, reduceEqDiff, Nat.reduceBEq, reduceIte])
       refine named0_ok.mono fun v h2 ⟨e2, e2'⟩ => ?_
       subst e2 e2'
       obtain ⟨s', hs1, hs2, _⟩ := Sl.sub imk.needs ty30 rfl (sizeOf_of ty9) (lo := none) (hi := some i) (l := 0) (r := i) rfl rfl (Nat.zero_le _) (by omega)
       have hs2 : Ss g h2 s' (x.needs.take i) := by
        have e : (x.needs.take i).length = i := by simp; omega
        unfold Ss Vs
        rw [e, List.map_take]
        simpa using hs2
       have hs1 : sliceV (E g) 30 c.needs none (some (.int .i64 i)) none = some s' := hs1
       (try simp only [wk, wl, wx, reduceLT, reduceEqDiff, Nat.reduceBEq, reduceIte, un, q1, t0, fa32_6, Nat.zero_add, Bk.at ty30 rfl (j := 6) (by simp), hs1])
       refine (containsS_ok hs2 (by rw [List.length_take]; omega)).mono fun v h3 ⟨e3, e3'⟩ => ?_
       subst e3 e3'
       (try simp only [wk, wl, wx, reduceLT, reduceEqDiff, Nat.reduceBEq, reduceIte, un, q1])
       (repeat refine WC.seq ?_)
       cases hc : (x.needs.take i).contains x.needs[i] with
       | true =>
        refine WC.cond (b := true) (by (try simp only [wk, wl, wx, reduceLT, reduceEqDiff, Nat.reduceBEq, reduceIte, q1, hc]); (try simp); (try omega)) ?_
        ((repeat refine WC.seq ?_); refine WC.run ?_)
        (try simp only [wk, wl, wx, reduceLT, reduceEqDiff, Nat.reduceBEq, reduceIte])
        refine WC.ret ?_
        (try simp only [wk, wl, wx, reduceLT, reduceEqDiff, Nat.reduceBEq, reduceIte])
        refine ⟨?_, Kk⟩
        rw [rightB, hH, hX, hS, allB_false hlt (by simp only [needP, hg, hc]; simp), Bool.false_and, Bool.and_false, Bool.and_false, Bool.and_false]
       | false =>
        refine WC.cond (b := false) (by (try simp only [wk, wl, wx, reduceLT, reduceEqDiff, Nat.reduceBEq, reduceIte, q1, hc]); (try simp); (try omega)) (WC.skip ?_)
        (try simp only [wk, wl, wx, reduceLT, reduceEqDiff, Nat.reduceBEq, reduceIte])
        ((repeat refine WC.seq ?_); refine WC.run ?_)
        (try simp only [wk, wl, wx, reduceLT, reduceEqDiff, Nat.reduceBEq, reduceIte, t195, bin_add])
        refine ⟨_, ?_, _, i + 1, rfl, by trivial, rfl, by omega, ?_⟩
        ·omega
        (try simp only [wk, wl, wx, reduceLT, reduceEqDiff, Nat.reduceBEq, reduceIte, t0, t4, t5, t193, t194])
        refine ⟨trivial, trivial, trivial, trivial, trivial, ?_, below_succ hal (by simp only [needP, hg, hc]; simp at q1; simp [q1])⟩
        rw [wrap64 (by omega) (by omega)]; rfl
      ·refine WC.cond (b := false) (by (try simp only [wk, wl, wx, reduceLT, reduceEqDiff, Nat.reduceBEq, reduceIte]); (try simp); (try omega)) (WC.exit ?_)
       have : i = x.needs.length := by omega
       subst this
       have hN := allB_true hal
       (try simp only [wk, wl, wx, reduceLT, reduceEqDiff, Nat.reduceBEq, reduceIte])
       have A1 : Ss g hn ev (x.exps.map (·.name)) := by
        have := (bus.fix (K := fun b => b < hq.next ∧ b ≠ hh.next) (nus.sub fun b hb => ⟨by omega, by omega⟩) fk).sl
        show Sl (E g) hn 1 ev (x.exps.map (·.name)).length ((x.exps.map (·.name)).map V.str)
        rw [List.length_map, List.map_map]; exact this
       have A2 : Ss g hn sv (x.slots.map (·.name)) := by
        have := bu.sl
        show Sl (E g) hn 1 sv (x.slots.map (·.name)).length ((x.slots.map (·.name)).map V.str)
        rw [List.length_map, List.map_map]; exact this
       have hR : rightB x = (incB (x.exps.map (·.name)) && incB (x.slots.map (·.name))) := by
        rw [rightB, hH, hX, hS, hN]; simp only [Bool.true_and]
       ((repeat refine WC.seq ?_); refine WC.run ?_)
       (try simp only [wk, wl, wx, reduceLT, reduceEqDiff, Nat.reduceBEq, reduceIte, t4])
       refine (increasing_ok A1 (by rw [List.length_map]; omega)).mono fun v h2 ⟨e2, e2'⟩ => ?_
       subst e2 e2'
       cases hi1 : incB (x.exps.map (·.name)) with
       | false =>
        (try simp only [wk, wl, wx, reduceLT, reduceEqDiff, Nat.reduceBEq, reduceIte, un, hi1])
        refine WC.ret ?_
        (try simp only [wk, wl, wx, reduceLT, reduceEqDiff, Nat.reduceBEq, reduceIte])
        exact ⟨by rw [hR, hi1]; rfl, Kk⟩
       | true =>
        (try simp only [wk, wl, wx, reduceLT, reduceEqDiff, Nat.reduceBEq, reduceIte, un, hi1, t5])
        refine (increasing_ok A2 (by rw [List.length_map]; omega)).mono fun v h3 ⟨e3, e3'⟩ => ?_
        subst e3 e3'
        (try simp only [wk, wl, wx, reduceLT, reduceEqDiff, Nat.reduceBEq, reduceIte])
        refine WC.ret ?_
        (try simp only [wk, wl, wx, reduceLT, reduceEqDiff, Nat.reduceBEq, reduceIte])
        exact ⟨by rw [hR, hi1]; rfl, Kk⟩
     all_goals (try simp only [wk, wl, wx, reduceLT, reduceEqDiff, Nat.reduceBEq, reduceIte, t0, t4, t5])
     all_goals (first | trivial | rfl | simp)
   all_goals (try simp only [wk, wl, wx, reduceLT, reduceEqDiff, Nat.reduceBEq, reduceIte, t0, t3, t4, t5, t6])
   all_goals (first | trivial | rfl | simp)
 all_goals (try simp only [wk, wl, wx, reduceLT, reduceEqDiff, Nat.reduceBEq, reduceIte, t0, t3])
 all_goals (first | trivial | rfl | simp)
theorem right_ok {h : H} {b : Nat} {c : Ic} {x : ImgD} (hb : Has h b (c.cells x)) (hbn : b < h.next) (im : Im g h (· < h.next) c x) (fit : FitsI x) : WF (E g) 52 [.ptr b 0] h fun v h' => v = .bool (rightB x) ∧ Kept h h' := rightA_ok hb.at0 hbn im fit
end Go.Proofs.OP
