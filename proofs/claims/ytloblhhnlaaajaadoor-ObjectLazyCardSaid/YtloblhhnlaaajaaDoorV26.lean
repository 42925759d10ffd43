/- Walks: ref.Right. Printed by genr5.py. -/
import Derived.Test.YtloblhhnlaaajaaDoorV15
import Derived.Test.YtloblhhnlaaajaaDoorV25
import Derived.Test.YtloblhhnlaaajaaDoorV17
set_option linter.unusedVariables false
set_option linter.unusedSimpArgs false
set_option linter.defProp false
set_option linter.unusedSimpArgs false
namespace Go.Proofs.OP
open Go Go.Ev
open Go.Proofs
open Nat (reduceLT reduceEqDiff)
variable {g : T (List V)}

def rheadI (x : ImgD) : Bool := decide (0 ≤ x.base) && (decide (x.base ≤ 2147483648) && (decide (x.base.tmod 16 = 0) && (decide ((x.bytes.length : Int) ≤ 131072) && (decide (0 ≤ x.code) && (decide (x.code ≤ x.bytes.length) && ((decide (x.entry = 0) || (decide (x.base ≤ x.entry) && decide (x.entry < x.base + x.code))) && (decide ((x.exps.length : Int) ≤ 5000) && (decide ((x.slots.length : Int) ≤ 5000) && decide ((x.needs.length : Int) ≤ 400)))))))))
def rexpP (x : ImgD) (i : Nat) : Bool := incP (x.exps.map (·.name)) i && expP x i
def rslotP (x : ImgD) (i : Nat) : Bool := incP (x.slots.map (·.name)) i && slotP x i
def rrightB (x : ImgD) : Bool := rheadI x && (allB (rexpP x) x.exps.length && (allB (rslotP x) x.slots.length && allB (needP x.needs) x.needs.length))
theorem rhead_no {x : ImgD} (h : ¬ (0 ≤ x.base ∧ x.base ≤ 2147483648 ∧ x.base.tmod 16 = 0 ∧ (x.bytes.length : Int) ≤ 131072 ∧ 0 ≤ x.code ∧ x.code ≤ x.bytes.length ∧ (x.entry = 0 ∨ (x.base ≤ x.entry ∧ x.entry < x.base + x.code)) ∧ (x.exps.length : Int) ≤ 5000 ∧ (x.slots.length : Int) ≤ 5000 ∧ (x.needs.length : Int) ≤ 400)) : rheadI x = false := by
 refine Bool.eq_false_iff.2 fun hh => h ?_
 simpa only [rheadI, Bool.and_eq_true, Bool.or_eq_true, decide_eq_true_eq] using hh
theorem rhead_yes {x : ImgD} (h : rheadI x = true) : 0 ≤ x.base ∧ x.base ≤ 2147483648 ∧ x.base.tmod 16 = 0 ∧ (x.bytes.length : Int) ≤ 131072 ∧ 0 ≤ x.code ∧ x.code ≤ x.bytes.length ∧ (x.entry = 0 ∨ (x.base ≤ x.entry ∧ x.entry < x.base + x.code)) ∧ (x.exps.length : Int) ≤ 5000 ∧ (x.slots.length : Int) ≤ 5000 ∧ (x.needs.length : Int) ≤ 400 := by
 simpa only [rheadI, Bool.and_eq_true, Bool.or_eq_true, decide_eq_true_eq] using h
theorem rhead_in {x : ImgD} (h : 0 ≤ x.base ∧ x.base ≤ 2147483648 ∧ x.base.tmod 16 = 0 ∧ (x.bytes.length : Int) ≤ 131072 ∧ 0 ≤ x.code ∧ x.code ≤ x.bytes.length ∧ (x.entry = 0 ∨ (x.base ≤ x.entry ∧ x.entry < x.base + x.code)) ∧ (x.exps.length : Int) ≤ 5000 ∧ (x.slots.length : Int) ≤ 5000 ∧ (x.needs.length : Int) ≤ 400) : rheadI x = true := by
 simpa only [rheadI, Bool.and_eq_true, Bool.or_eq_true, decide_eq_true_eq] using h
theorem incP_bad {L : List (List UInt8)} {i : Nat} {s : List UInt8} (hs : L[i]? = some s) (hn : ¬ nameE s = 0) : incP L i = false := by
 simp only [incP, hs]; rw [decide_eq_false hn]; rfl
theorem incP_first {L : List (List UInt8)} {i : Nat} {s : List UInt8} (hs : L[i]? = some s) (hn : nameE s = 0) (hz : i = 0) : incP L i = true := by
 simp only [incP, hs]; rw [decide_eq_true hn, decide_eq_true hz]; rfl
theorem incP_next {L : List (List UInt8)} {i : Nat} {s p : List UInt8} (hs : L[i]? = some s) (hp : L[i - 1]? = some p) (hn : nameE s = 0) (hz : ¬ i = 0) : incP L i = !leS s p := by
 simp only [incP, hs, hp]; rw [decide_eq_true hn, decide_eq_false hz]; rfl

set_option maxRecDepth 100000 in
set_option maxHeartbeats 16000000 in
theorem rright_ok {h : H} {c : Ic} {x : ImgD} (im : Im g h (· < h.next) c x) (fit : FitsI x) : WF (E g) 58 [.agg (c.cells x)] h fun v h' => v = .bool (rrightB x) ∧ Kept h h' := by
 have fs := fit.exps
 have fr := fit.slots
 have fn := fit.needs
 have fc := fit.bytes
 have r16 : ∀ {h : H} {k : Bool} {ty : Nat} {a : Int}, binV (E g) h k .rem ty (.int .i64 a) (.int .i64 16) = some (.int .i64 (a.tmod 16)) := fun {h k ty a} => bin_rem (by decide)
 have r8 : ∀ {h : H} {k : Bool} {ty : Nat} {a : Int}, binV (E g) h k .rem ty (.int .i64 a) (.int .i64 8) = some (.int .i64 (a.tmod 8)) := fun {h k ty a} => bin_rem (by decide)
 refine WF.enter fn58 rfl ?_
 ((repeat refine WC.seq ?_); refine WC.run ?_)
 (try simp only [wk, wl, wx, reduceLT, reduceEqDiff, Nat.reduceBEq, reduceIte])
 refine wop_box (v := .agg (c.cells x)) (by (try simp only [wk, wl, wx, reduceLT, reduceEqDiff, Nat.reduceBEq, reduceIte])) ?_
 intro h1 b1 n1 f1
 (try simp only [wk, wl, wx, reduceLT, reduceEqDiff, Nat.reduceBEq, reduceIte])
 have b1 : Has h1 h.next [i64 x.base, c.bytes, i64 x.code, i64 x.entry, c.exps, c.slots, c.needs] := b1
 have im1 := (im.fix f1 (fun _ h => h)).up (K' := (· < h1.next)) (fun _ h => by omega)
 have l0 : loadP (E g) h1 2 (.ptr h.next 0) = some (.int .i64 x.base) := b1.at ty2 rfl 0
 have l2 : loadP (E g) h1 2 (.ptr h.next 2) = some (.int .i64 x.code) := b1.at ty2 rfl 2
 have l3 : loadP (E g) h1 2 (.ptr h.next 3) = some (.int .i64 x.entry) := b1.at ty2 rfl 3
 ((repeat refine WC.seq ?_); refine WC.run ?_)
 (try simp only [wk, wl, wx, reduceLT, reduceEqDiff, Nat.reduceBEq, reduceIte, fa60_1, Nat.zero_add, b1.at ty27 rfl, im1.bytes.len])
 ((repeat refine WC.seq ?_); refine WC.run ?_)
 (try simp only [List.append_eq, List.toList_toArray, List.cons_append, List.nil_append])
 refine WRun_two 4 (M := fun fr hM => hM = h1 ∧ ∃ ts, fr = ⟨ts, 231, [], 58, none⟩ ∧ ts.get 1 = some (.ptr h.next 0) ∧ ts.get 3 = some (.int .i64 x.bytes.length) ∧ ts.get 19 = some (.bool (decide (x.base < 0)))) ?_ ?_
 ·skip
  (try simp only [wk, wl, wx, reduceLT, reduceEqDiff, Nat.reduceBEq, reduceIte, List.take_succ_cons, List.take_zero, un, fa60_0, fa60_2, fa60_3, fa60_4, fa60_5, fa60_6, Nat.zero_add, l0, l2, l3, b1.at ty30 rfl, b1.at ty57 rfl, b1.at ty58 rfl, Sl.lenB im1.exps ty57 rfl, Sl.lenB im1.slots ty58 rfl, Sl.lenB im1.needs ty30 rfl, r16, bin_add])
  first | refine ⟨by trivial, _, rfl, ?_, ?_, ?_⟩ | refine ⟨_, rfl, ?_, ?_, ?_⟩
  all_goals (try simp only [wk, wl, wx, reduceLT, reduceEqDiff, Nat.reduceBEq, reduceIte, Nat.zero_add, Bool.true_or, Bool.false_or, Bool.true_and, Bool.false_and])
  all_goals (first | done | rfl | trivial)
 rintro fr hM ⟨hhe, ts, rfl, t1, t3, tB⟩
 subst hM
 simp only [List.drop_succ_cons, List.drop_zero]
 refine WRun_two 5 (M := fun fr hM => hM = h1 ∧ ∃ ts, fr = ⟨ts, 231, [], 58, none⟩ ∧ ts.get 1 = some (.ptr h.next 0) ∧ ts.get 3 = some (.int .i64 x.bytes.length) ∧ ts.get 24 = some (.bool ((decide (x.base < 0) || decide ((2147483648 : Int) < x.base))))) ?_ ?_
 ·skip
  cases hB : decide (x.base < 0) with
  | true =>
   rw [hB] at tB
   (try simp only [wk, wl, wx, reduceLT, reduceEqDiff, Nat.reduceBEq, reduceIte, List.take_succ_cons, List.take_zero, un, t1, t3, hB, tB, fa60_0, fa60_2, fa60_3, fa60_4, fa60_5, fa60_6, Nat.zero_add, l0, l2, l3, b1.at ty30 rfl, b1.at ty57 rfl, b1.at ty58 rfl, Sl.lenB im1.exps ty57 rfl, Sl.lenB im1.slots ty58 rfl, Sl.lenB im1.needs ty30 rfl, r16, bin_add])
   first | refine ⟨by trivial, _, rfl, ?_, ?_, ?_⟩ | refine ⟨_, rfl, ?_, ?_, ?_⟩
   all_goals (try simp only [wk, wl, wx, reduceLT, reduceEqDiff, Nat.reduceBEq, reduceIte, t1, t3, hB, tB, Bool.true_or, Bool.false_or, Bool.true_and, Bool.false_and])
   all_goals (first | done | rfl | trivial)
  | false =>
   rw [hB] at tB
   (try simp only [wk, wl, wx, reduceLT, reduceEqDiff, Nat.reduceBEq, reduceIte, List.take_succ_cons, List.take_zero, un, t1, t3, hB, tB, fa60_0, fa60_2, fa60_3, fa60_4, fa60_5, fa60_6, Nat.zero_add, l0, l2, l3, b1.at ty30 rfl, b1.at ty57 rfl, b1.at ty58 rfl, Sl.lenB im1.exps ty57 rfl, Sl.lenB im1.slots ty58 rfl, Sl.lenB im1.needs ty30 rfl, r16, bin_add])
   first | refine ⟨by trivial, _, rfl, ?_, ?_, ?_⟩ | refine ⟨_, rfl, ?_, ?_, ?_⟩
   all_goals (try simp only [wk, wl, wx, reduceLT, reduceEqDiff, Nat.reduceBEq, reduceIte, t1, t3, hB, tB, Bool.true_or, Bool.false_or, Bool.true_and, Bool.false_and])
   all_goals (first | done | rfl | trivial)
 clear t1 t3 tB
 rintro fr hM ⟨hhe, ts, rfl, t1, t3, tB⟩
 subst hM
 simp only [List.drop_succ_cons, List.drop_zero]
 refine WRun_two 6 (M := fun fr hM => hM = h1 ∧ ∃ ts, fr = ⟨ts, 231, [], 58, none⟩ ∧ ts.get 1 = some (.ptr h.next 0) ∧ ts.get 3 = some (.int .i64 x.bytes.length) ∧ ts.get 30 = some (.bool (((decide (x.base < 0) || decide ((2147483648 : Int) < x.base)) || (x.base.tmod 16 != 0))))) ?_ ?_
 ·skip
  cases hB : (decide (x.base < 0) || decide ((2147483648 : Int) < x.base)) with
  | true =>
   rw [hB] at tB
   (try simp only [wk, wl, wx, reduceLT, reduceEqDiff, Nat.reduceBEq, reduceIte, List.take_succ_cons, List.take_zero, un, t1, t3, hB, tB, fa60_0, fa60_2, fa60_3, fa60_4, fa60_5, fa60_6, Nat.zero_add, l0, l2, l3, b1.at ty30 rfl, b1.at ty57 rfl, b1.at ty58 rfl, Sl.lenB im1.exps ty57 rfl, Sl.lenB im1.slots ty58 rfl, Sl.lenB im1.needs ty30 rfl, r16, bin_add])
   first | refine ⟨by trivial, _, rfl, ?_, ?_, ?_⟩ | refine ⟨_, rfl, ?_, ?_, ?_⟩
   all_goals (try simp only [wk, wl, wx, reduceLT, reduceEqDiff, Nat.reduceBEq, reduceIte, t1, t3, hB, tB, Bool.true_or, Bool.false_or, Bool.true_and, Bool.false_and])
   all_goals (first | done | rfl | trivial)
  | false =>
   rw [hB] at tB
   (try simp only [wk, wl, wx, reduceLT, reduceEqDiff, Nat.reduceBEq, reduceIte, List.take_succ_cons, List.take_zero, un, t1, t3, hB, tB, fa60_0, fa60_2, fa60_3, fa60_4, fa60_5, fa60_6, Nat.zero_add, l0, l2, l3, b1.at ty30 rfl, b1.at ty57 rfl, b1.at ty58 rfl, Sl.lenB im1.exps ty57 rfl, Sl.lenB im1.slots ty58 rfl, Sl.lenB im1.needs ty30 rfl, r16, bin_add])
   first | refine ⟨by trivial, _, rfl, ?_, ?_, ?_⟩ | refine ⟨_, rfl, ?_, ?_, ?_⟩
   all_goals (try simp only [wk, wl, wx, reduceLT, reduceEqDiff, Nat.reduceBEq, reduceIte, t1, t3, hB, tB, Bool.true_or, Bool.false_or, Bool.true_and, Bool.false_and])
   all_goals (first | done | rfl | trivial)
 clear t1 t3 tB
 rintro fr hM ⟨hhe, ts, rfl, t1, t3, tB⟩
 subst hM
 simp only [List.drop_succ_cons, List.drop_zero]
 refine WRun_two 4 (M := fun fr hM => hM = h1 ∧ ∃ ts, fr = ⟨ts, 231, [], 58, none⟩ ∧ ts.get 1 = some (.ptr h.next 0) ∧ ts.get 3 = some (.int .i64 x.bytes.length) ∧ ts.get 34 = some (.bool ((((decide (x.base < 0) || decide ((2147483648 : Int) < x.base)) || (x.base.tmod 16 != 0)) || decide ((131072 : Int) < x.bytes.length))))) ?_ ?_
 ·skip
  cases hB : ((decide (x.base < 0) || decide ((2147483648 : Int) < x.base)) || (x.base.tmod 16 != 0)) with
  | true =>
   rw [hB] at tB
   (try simp only [wk, wl, wx, reduceLT, reduceEqDiff, Nat.reduceBEq, reduceIte, List.take_succ_cons, List.take_zero, un, t1, t3, hB, tB, fa60_0, fa60_2, fa60_3, fa60_4, fa60_5, fa60_6, Nat.zero_add, l0, l2, l3, b1.at ty30 rfl, b1.at ty57 rfl, b1.at ty58 rfl, Sl.lenB im1.exps ty57 rfl, Sl.lenB im1.slots ty58 rfl, Sl.lenB im1.needs ty30 rfl, r16, bin_add])
   first | refine ⟨by trivial, _, rfl, ?_, ?_, ?_⟩ | refine ⟨_, rfl, ?_, ?_, ?_⟩
   all_goals (try simp only [wk, wl, wx, reduceLT, reduceEqDiff, Nat.reduceBEq, reduceIte, t1, t3, hB, tB, Bool.true_or, Bool.false_or, Bool.true_and, Bool.false_and])
   all_goals (first | done | rfl | trivial)
  | false =>
   rw [hB] at tB
   (try simp only [wk, wl, wx, reduceLT, reduceEqDiff, Nat.reduceBEq, reduceIte, List.take_succ_cons, List.take_zero, un, t1, t3, hB, tB, fa60_0, fa60_2, fa60_3, fa60_4, fa60_5, fa60_6, Nat.zero_add, l0, l2, l3, b1.at ty30 rfl, b1.at ty57 rfl, b1.at ty58 rfl, Sl.lenB im1.exps ty57 rfl, Sl.lenB im1.slots ty58 rfl, Sl.lenB im1.needs ty30 rfl, r16, bin_add])
   first | refine ⟨by trivial, _, rfl, ?_, ?_, ?_⟩ | refine ⟨_, rfl, ?_, ?_, ?_⟩
   all_goals (try simp only [wk, wl, wx, reduceLT, reduceEqDiff, Nat.reduceBEq, reduceIte, t1, t3, hB, tB, Bool.true_or, Bool.false_or, Bool.true_and, Bool.false_and])
   all_goals (first | done | rfl | trivial)
 clear t1 t3 tB
 rintro fr hM ⟨hhe, ts, rfl, t1, t3, tB⟩
 subst hM
 simp only [List.drop_succ_cons, List.drop_zero]
 refine WRun_two 5 (M := fun fr hM => hM = h1 ∧ ∃ ts, fr = ⟨ts, 231, [], 58, none⟩ ∧ ts.get 1 = some (.ptr h.next 0) ∧ ts.get 3 = some (.int .i64 x.bytes.length) ∧ ts.get 39 = some (.bool (((((decide (x.base < 0) || decide ((2147483648 : Int) < x.base)) || (x.base.tmod 16 != 0)) || decide ((131072 : Int) < x.bytes.length)) || decide (x.code < 0))))) ?_ ?_
 ·skip
  cases hB : (((decide (x.base < 0) || decide ((2147483648 : Int) < x.base)) || (x.base.tmod 16 != 0)) || decide ((131072 : Int) < x.bytes.length)) with
  | true =>
   rw [hB] at tB
   (try simp only [wk, wl, wx, reduceLT, reduceEqDiff, Nat.reduceBEq, reduceIte, List.take_succ_cons, List.take_zero, un, t1, t3, hB, tB, fa60_0, fa60_2, fa60_3, fa60_4, fa60_5, fa60_6, Nat.zero_add, l0, l2, l3, b1.at ty30 rfl, b1.at ty57 rfl, b1.at ty58 rfl, Sl.lenB im1.exps ty57 rfl, Sl.lenB im1.slots ty58 rfl, Sl.lenB im1.needs ty30 rfl, r16, bin_add])
   first | refine ⟨by trivial, _, rfl, ?_, ?_, ?_⟩ | refine ⟨_, rfl, ?_, ?_, ?_⟩
   all_goals (try simp only [wk, wl, wx, reduceLT, reduceEqDiff, Nat.reduceBEq, reduceIte, t1, t3, hB, tB, Bool.true_or, Bool.false_or, Bool.true_and, Bool.false_and])
   all_goals (first | done | rfl | trivial)
  | false =>
   rw [hB] at tB
   (try simp only [wk, wl, wx, reduceLT, reduceEqDiff, Nat.reduceBEq, reduceIte, List.take_succ_cons, List.take_zero, un, t1, t3, hB, tB, fa60_0, fa60_2, fa60_3, fa60_4, fa60_5, fa60_6, Nat.zero_add, l0, l2, l3, b1.at ty30 rfl, b1.at ty57 rfl, b1.at ty58 rfl, Sl.lenB im1.exps ty57 rfl, Sl.lenB im1.slots ty58 rfl, Sl.lenB im1.needs ty30 rfl, r16, bin_add])
   first | refine ⟨by trivial, _, rfl, ?_, ?_, ?_⟩ | refine ⟨_, rfl, ?_, ?_, ?_⟩
   all_goals (try simp only [wk, wl, wx, reduceLT, reduceEqDiff, Nat.reduceBEq, reduceIte, t1, t3, hB, tB, Bool.true_or, Bool.false_or, Bool.true_and, Bool.false_and])
   all_goals (first | done | rfl | trivial)
 clear t1 t3 tB
 rintro fr hM ⟨hhe, ts, rfl, t1, t3, tB⟩
 subst hM
 simp only [List.drop_succ_cons, List.drop_zero]
 refine WRun_two 6 (M := fun fr hM => hM = h1 ∧ ∃ ts, fr = ⟨ts, 231, [], 58, none⟩ ∧ ts.get 1 = some (.ptr h.next 0) ∧ ts.get 3 = some (.int .i64 x.bytes.length) ∧ ts.get 45 = some (.bool ((((((decide (x.base < 0) || decide ((2147483648 : Int) < x.base)) || (x.base.tmod 16 != 0)) || decide ((131072 : Int) < x.bytes.length)) || decide (x.code < 0)) || decide ((x.bytes.length : Int) < x.code))))) ?_ ?_
 ·skip
  cases hB : ((((decide (x.base < 0) || decide ((2147483648 : Int) < x.base)) || (x.base.tmod 16 != 0)) || decide ((131072 : Int) < x.bytes.length)) || decide (x.code < 0)) with
  | true =>
   rw [hB] at tB
   (try simp only [wk, wl, wx, reduceLT, reduceEqDiff, Nat.reduceBEq, reduceIte, List.take_succ_cons, List.take_zero, un, t1, t3, hB, tB, fa60_0, fa60_2, fa60_3, fa60_4, fa60_5, fa60_6, Nat.zero_add, l0, l2, l3, b1.at ty30 rfl, b1.at ty57 rfl, b1.at ty58 rfl, Sl.lenB im1.exps ty57 rfl, Sl.lenB im1.slots ty58 rfl, Sl.lenB im1.needs ty30 rfl, r16, bin_add])
   first | refine ⟨by trivial, _, rfl, ?_, ?_, ?_⟩ | refine ⟨_, rfl, ?_, ?_, ?_⟩
   all_goals (try simp only [wk, wl, wx, reduceLT, reduceEqDiff, Nat.reduceBEq, reduceIte, t1, t3, hB, tB, Bool.true_or, Bool.false_or, Bool.true_and, Bool.false_and])
   all_goals (first | done | rfl | trivial)
  | false =>
   rw [hB] at tB
   (try simp only [wk, wl, wx, reduceLT, reduceEqDiff, Nat.reduceBEq, reduceIte, List.take_succ_cons, List.take_zero, un, t1, t3, hB, tB, fa60_0, fa60_2, fa60_3, fa60_4, fa60_5, fa60_6, Nat.zero_add, l0, l2, l3, b1.at ty30 rfl, b1.at ty57 rfl, b1.at ty58 rfl, Sl.lenB im1.exps ty57 rfl, Sl.lenB im1.slots ty58 rfl, Sl.lenB im1.needs ty30 rfl, r16, bin_add])
   first | refine ⟨by trivial, _, rfl, ?_, ?_, ?_⟩ | refine ⟨_, rfl, ?_, ?_, ?_⟩
   all_goals (try simp only [wk, wl, wx, reduceLT, reduceEqDiff, Nat.reduceBEq, reduceIte, t1, t3, hB, tB, Bool.true_or, Bool.false_or, Bool.true_and, Bool.false_and])
   all_goals (first | done | rfl | trivial)
 clear t1 t3 tB
 rintro fr hM ⟨hhe, ts, rfl, t1, t3, tB⟩
 subst hM
 simp only [List.drop_succ_cons, List.drop_zero]
 refine WRun_two 22 (M := fun fr hM => hM = h1 ∧ ∃ ts, fr = ⟨ts, 231, [], 58, none⟩ ∧ ts.get 1 = some (.ptr h.next 0) ∧ ts.get 3 = some (.int .i64 x.bytes.length) ∧ ts.get 67 = some (.bool (((((((decide (x.base < 0) || decide ((2147483648 : Int) < x.base)) || (x.base.tmod 16 != 0)) || decide ((131072 : Int) < x.bytes.length)) || decide (x.code < 0)) || decide ((x.bytes.length : Int) < x.code)) || ((x.entry != 0) && (decide (x.entry < x.base) || decide (IntKind.i64.wrap (x.base + x.code) ≤ x.entry))))))) ?_ ?_
 ·skip
  cases hB : (((((decide (x.base < 0) || decide ((2147483648 : Int) < x.base)) || (x.base.tmod 16 != 0)) || decide ((131072 : Int) < x.bytes.length)) || decide (x.code < 0)) || decide ((x.bytes.length : Int) < x.code)) with
  | true =>
   rw [hB] at tB
   (try simp only [wk, wl, wx, reduceLT, reduceEqDiff, Nat.reduceBEq, reduceIte, List.take_succ_cons, List.take_zero, un, t1, t3, hB, tB, fa60_0, fa60_2, fa60_3, fa60_4, fa60_5, fa60_6, Nat.zero_add, l0, l2, l3, b1.at ty30 rfl, b1.at ty57 rfl, b1.at ty58 rfl, Sl.lenB im1.exps ty57 rfl, Sl.lenB im1.slots ty58 rfl, Sl.lenB im1.needs ty30 rfl, r16, bin_add])
   first | refine ⟨by trivial, _, rfl, ?_, ?_, ?_⟩ | refine ⟨_, rfl, ?_, ?_, ?_⟩
   all_goals (try simp only [wk, wl, wx, reduceLT, reduceEqDiff, Nat.reduceBEq, reduceIte, t1, t3, hB, tB, Bool.true_or, Bool.false_or, Bool.true_and, Bool.false_and])
   all_goals (first | done | rfl | trivial)
  | false =>
   rw [hB] at tB
   cases hc2 : (x.entry != 0) with
   | true =>
    cases hc3 : decide (x.entry < x.base) with
    | true =>
     (try simp only [wk, wl, wx, reduceLT, reduceEqDiff, Nat.reduceBEq, reduceIte, List.take_succ_cons, List.take_zero, un, t1, t3, hB, tB, hc2, hc3, fa60_0, fa60_2, fa60_3, fa60_4, fa60_5, fa60_6, Nat.zero_add, l0, l2, l3, b1.at ty30 rfl, b1.at ty57 rfl, b1.at ty58 rfl, Sl.lenB im1.exps ty57 rfl, Sl.lenB im1.slots ty58 rfl, Sl.lenB im1.needs ty30 rfl, r16, bin_add])
     first | refine ⟨by trivial, _, rfl, ?_, ?_, ?_⟩ | refine ⟨_, rfl, ?_, ?_, ?_⟩
     all_goals (try simp only [wk, wl, wx, reduceLT, reduceEqDiff, Nat.reduceBEq, reduceIte, t1, t3, hB, tB, hc2, hc3, Bool.true_or, Bool.false_or, Bool.true_and, Bool.false_and])
     all_goals (first | done | rfl | trivial)
    | false =>
     (try simp only [wk, wl, wx, reduceLT, reduceEqDiff, Nat.reduceBEq, reduceIte, List.take_succ_cons, List.take_zero, un, t1, t3, hB, tB, hc2, hc3, fa60_0, fa60_2, fa60_3, fa60_4, fa60_5, fa60_6, Nat.zero_add, l0, l2, l3, b1.at ty30 rfl, b1.at ty57 rfl, b1.at ty58 rfl, Sl.lenB im1.exps ty57 rfl, Sl.lenB im1.slots ty58 rfl, Sl.lenB im1.needs ty30 rfl, r16, bin_add])
     first | refine ⟨by trivial, _, rfl, ?_, ?_, ?_⟩ | refine ⟨_, rfl, ?_, ?_, ?_⟩
     all_goals (try simp only [wk, wl, wx, reduceLT, reduceEqDiff, Nat.reduceBEq, reduceIte, t1, t3, hB, tB, hc2, hc3, Bool.true_or, Bool.false_or, Bool.true_and, Bool.false_and])
     all_goals (first | done | rfl | trivial)
   | false =>
    (try simp only [wk, wl, wx, reduceLT, reduceEqDiff, Nat.reduceBEq, reduceIte, List.take_succ_cons, List.take_zero, un, t1, t3, hB, tB, hc2, fa60_0, fa60_2, fa60_3, fa60_4, fa60_5, fa60_6, Nat.zero_add, l0, l2, l3, b1.at ty30 rfl, b1.at ty57 rfl, b1.at ty58 rfl, Sl.lenB im1.exps ty57 rfl, Sl.lenB im1.slots ty58 rfl, Sl.lenB im1.needs ty30 rfl, r16, bin_add])
    first | refine ⟨by trivial, _, rfl, ?_, ?_, ?_⟩ | refine ⟨_, rfl, ?_, ?_, ?_⟩
    all_goals (try simp only [wk, wl, wx, reduceLT, reduceEqDiff, Nat.reduceBEq, reduceIte, t1, t3, hB, tB, hc2, Bool.true_or, Bool.false_or, Bool.true_and, Bool.false_and])
    all_goals (first | done | rfl | trivial)
 clear t1 t3 tB
 rintro fr hM ⟨hhe, ts, rfl, t1, t3, tB⟩
 subst hM
 simp only [List.drop_succ_cons, List.drop_zero]
 refine WRun_two 6 (M := fun fr hM => hM = h1 ∧ ∃ ts, fr = ⟨ts, 231, [], 58, none⟩ ∧ ts.get 1 = some (.ptr h.next 0) ∧ ts.get 3 = some (.int .i64 x.bytes.length) ∧ ts.get 73 = some (.bool ((((((((decide (x.base < 0) || decide ((2147483648 : Int) < x.base)) || (x.base.tmod 16 != 0)) || decide ((131072 : Int) < x.bytes.length)) || decide (x.code < 0)) || decide ((x.bytes.length : Int) < x.code)) || ((x.entry != 0) && (decide (x.entry < x.base) || decide (IntKind.i64.wrap (x.base + x.code) ≤ x.entry)))) || decide ((5000 : Int) < x.exps.length))))) ?_ ?_
 ·skip
  cases hB : ((((((decide (x.base < 0) || decide ((2147483648 : Int) < x.base)) || (x.base.tmod 16 != 0)) || decide ((131072 : Int) < x.bytes.length)) || decide (x.code < 0)) || decide ((x.bytes.length : Int) < x.code)) || ((x.entry != 0) && (decide (x.entry < x.base) || decide (IntKind.i64.wrap (x.base + x.code) ≤ x.entry)))) with
  | true =>
   rw [hB] at tB
   (try simp only [wk, wl, wx, reduceLT, reduceEqDiff, Nat.reduceBEq, reduceIte, List.take_succ_cons, List.take_zero, un, t1, t3, hB, tB, fa60_0, fa60_2, fa60_3, fa60_4, fa60_5, fa60_6, Nat.zero_add, l0, l2, l3, b1.at ty30 rfl, b1.at ty57 rfl, b1.at ty58 rfl, Sl.lenB im1.exps ty57 rfl, Sl.lenB im1.slots ty58 rfl, Sl.lenB im1.needs ty30 rfl, r16, bin_add])
   first | refine ⟨by trivial, _, rfl, ?_, ?_, ?_⟩ | refine ⟨_, rfl, ?_, ?_, ?_⟩
   all_goals (try simp only [wk, wl, wx, reduceLT, reduceEqDiff, Nat.reduceBEq, reduceIte, t1, t3, hB, tB, Bool.true_or, Bool.false_or, Bool.true_and, Bool.false_and])
   all_goals (first | done | rfl | trivial)
  | false =>
   rw [hB] at tB
   (try simp only [wk, wl, wx, reduceLT, reduceEqDiff, Nat.reduceBEq, reduceIte, List.take_succ_cons, List.take_zero, un, t1, t3, hB, tB, fa60_0, fa60_2, fa60_3, fa60_4, fa60_5, fa60_6, Nat.zero_add, l0, l2, l3, b1.at ty30 rfl, b1.at ty57 rfl, b1.at ty58 rfl, Sl.lenB im1.exps ty57 rfl, Sl.lenB im1.slots ty58 rfl, Sl.lenB im1.needs ty30 rfl, r16, bin_add])
   first | refine ⟨by trivial, _, rfl, ?_, ?_, ?_⟩ | refine ⟨_, rfl, ?_, ?_, ?_⟩
   all_goals (try simp only [wk, wl, wx, reduceLT, reduceEqDiff, Nat.reduceBEq, reduceIte, t1, t3, hB, tB, Bool.true_or, Bool.false_or, Bool.true_and, Bool.false_and])
   all_goals (first | done | rfl | trivial)
 clear t1 t3 tB
 rintro fr hM ⟨hhe, ts, rfl, t1, t3, tB⟩
 subst hM
 simp only [List.drop_succ_cons, List.drop_zero]
 refine WRun_two 6 (M := fun fr hM => hM = h1 ∧ ∃ ts, fr = ⟨ts, 231, [], 58, none⟩ ∧ ts.get 1 = some (.ptr h.next 0) ∧ ts.get 3 = some (.int .i64 x.bytes.length) ∧ ts.get 79 = some (.bool (((((((((decide (x.base < 0) || decide ((2147483648 : Int) < x.base)) || (x.base.tmod 16 != 0)) || decide ((131072 : Int) < x.bytes.length)) || decide (x.code < 0)) || decide ((x.bytes.length : Int) < x.code)) || ((x.entry != 0) && (decide (x.entry < x.base) || decide (IntKind.i64.wrap (x.base + x.code) ≤ x.entry)))) || decide ((5000 : Int) < x.exps.length)) || decide ((5000 : Int) < x.slots.length))))) ?_ ?_
 ·skip
  cases hB : (((((((decide (x.base < 0) || decide ((2147483648 : Int) < x.base)) || (x.base.tmod 16 != 0)) || decide ((131072 : Int) < x.bytes.length)) || decide (x.code < 0)) || decide ((x.bytes.length : Int) < x.code)) || ((x.entry != 0) && (decide (x.entry < x.base) || decide (IntKind.i64.wrap (x.base + x.code) ≤ x.entry)))) || decide ((5000 : Int) < x.exps.length)) with
  | true =>
   rw [hB] at tB
   (try simp only [wk, wl, wx, reduceLT, reduceEqDiff, Nat.reduceBEq, reduceIte, List.take_succ_cons, List.take_zero, un, t1, t3, hB, tB, fa60_0, fa60_2, fa60_3, fa60_4, fa60_5, fa60_6, Nat.zero_add, l0, l2, l3, b1.at ty30 rfl, b1.at ty57 rfl, b1.at ty58 rfl, Sl.lenB im1.exps ty57 rfl, Sl.lenB im1.slots ty58 rfl, Sl.lenB im1.needs ty30 rfl, r16, bin_add])
   first | refine ⟨by trivial, _, rfl, ?_, ?_, ?_⟩ | refine ⟨_, rfl, ?_, ?_, ?_⟩
   all_goals (try simp only [wk, wl, wx, reduceLT, reduceEqDiff, Nat.reduceBEq, reduceIte, t1, t3, hB, tB, Bool.true_or, Bool.false_or, Bool.true_and, Bool.false_and])
   all_goals (first | done | rfl | trivial)
  | false =>
   rw [hB] at tB
   (try simp only [wk, wl, wx, reduceLT, reduceEqDiff, Nat.reduceBEq, reduceIte, List.take_succ_cons, List.take_zero, un, t1, t3, hB, tB, fa60_0, fa60_2, fa60_3, fa60_4, fa60_5, fa60_6, Nat.zero_add, l0, l2, l3, b1.at ty30 rfl, b1.at ty57 rfl, b1.at ty58 rfl, Sl.lenB im1.exps ty57 rfl, Sl.lenB im1.slots ty58 rfl, Sl.lenB im1.needs ty30 rfl, r16, bin_add])
   first | refine ⟨by trivial, _, rfl, ?_, ?_, ?_⟩ | refine ⟨_, rfl, ?_, ?_, ?_⟩
   all_goals (try simp only [wk, wl, wx, reduceLT, reduceEqDiff, Nat.reduceBEq, reduceIte, t1, t3, hB, tB, Bool.true_or, Bool.false_or, Bool.true_and, Bool.false_and])
   all_goals (first | done | rfl | trivial)
 clear t1 t3 tB
 rintro fr hM ⟨hhe, ts, rfl, t1, t3, tB⟩
 subst hM
 simp only [List.drop_succ_cons, List.drop_zero]
 refine WRun_two 5 (M := fun fr hM => hM = h1 ∧ ∃ ts, fr = ⟨ts, 231, [], 58, none⟩ ∧ ts.get 1 = some (.ptr h.next 0) ∧ ts.get 3 = some (.int .i64 x.bytes.length) ∧ ts.get 84 = some (.bool ((((((((((decide (x.base < 0) || decide ((2147483648 : Int) < x.base)) || (x.base.tmod 16 != 0)) || decide ((131072 : Int) < x.bytes.length)) || decide (x.code < 0)) || decide ((x.bytes.length : Int) < x.code)) || ((x.entry != 0) && (decide (x.entry < x.base) || decide (IntKind.i64.wrap (x.base + x.code) ≤ x.entry)))) || decide ((5000 : Int) < x.exps.length)) || decide ((5000 : Int) < x.slots.length)) || decide ((400 : Int) < x.needs.length))))) ?_ ?_
 ·skip
  cases hB : ((((((((decide (x.base < 0) || decide ((2147483648 : Int) < x.base)) || (x.base.tmod 16 != 0)) || decide ((131072 : Int) < x.bytes.length)) || decide (x.code < 0)) || decide ((x.bytes.length : Int) < x.code)) || ((x.entry != 0) && (decide (x.entry < x.base) || decide (IntKind.i64.wrap (x.base + x.code) ≤ x.entry)))) || decide ((5000 : Int) < x.exps.length)) || decide ((5000 : Int) < x.slots.length)) with
  | true =>
   rw [hB] at tB
   (try simp only [wk, wl, wx, reduceLT, reduceEqDiff, Nat.reduceBEq, reduceIte, List.take_succ_cons, List.take_zero, un, t1, t3, hB, tB, fa60_0, fa60_2, fa60_3, fa60_4, fa60_5, fa60_6, Nat.zero_add, l0, l2, l3, b1.at ty30 rfl, b1.at ty57 rfl, b1.at ty58 rfl, Sl.lenB im1.exps ty57 rfl, Sl.lenB im1.slots ty58 rfl, Sl.lenB im1.needs ty30 rfl, r16, bin_add])
   first | refine ⟨by trivial, _, rfl, ?_, ?_, ?_⟩ | refine ⟨_, rfl, ?_, ?_, ?_⟩
   all_goals (try simp only [wk, wl, wx, reduceLT, reduceEqDiff, Nat.reduceBEq, reduceIte, t1, t3, hB, tB, Bool.true_or, Bool.false_or, Bool.true_and, Bool.false_and])
   all_goals (first | done | rfl | trivial)
  | false =>
   rw [hB] at tB
   (try simp only [wk, wl, wx, reduceLT, reduceEqDiff, Nat.reduceBEq, reduceIte, List.take_succ_cons, List.take_zero, un, t1, t3, hB, tB, fa60_0, fa60_2, fa60_3, fa60_4, fa60_5, fa60_6, Nat.zero_add, l0, l2, l3, b1.at ty30 rfl, b1.at ty57 rfl, b1.at ty58 rfl, Sl.lenB im1.exps ty57 rfl, Sl.lenB im1.slots ty58 rfl, Sl.lenB im1.needs ty30 rfl, r16, bin_add])
   first | refine ⟨by trivial, _, rfl, ?_, ?_, ?_⟩ | refine ⟨_, rfl, ?_, ?_, ?_⟩
   all_goals (try simp only [wk, wl, wx, reduceLT, reduceEqDiff, Nat.reduceBEq, reduceIte, t1, t3, hB, tB, Bool.true_or, Bool.false_or, Bool.true_and, Bool.false_and])
   all_goals (first | done | rfl | trivial)
 clear t1 t3 tB
 rintro fr hM ⟨hhe, ts, rfl, t1, t3, tB⟩
 subst hM
 simp only [List.drop_succ_cons, List.drop_zero]
 (try simp only [wk, wl, wx, reduceLT, reduceEqDiff, Nat.reduceBEq, reduceIte])
 (repeat refine WC.seq ?_)
 cases hH1 : (((((((((decide (x.base < 0) || decide ((2147483648 : Int) < x.base)) || (x.base.tmod 16 != 0)) || decide ((131072 : Int) < x.bytes.length)) || decide (x.code < 0)) || decide ((x.bytes.length : Int) < x.code)) || ((x.entry != 0) && (decide (x.entry < x.base) || decide (IntKind.i64.wrap (x.base + x.code) ≤ x.entry)))) || decide ((5000 : Int) < x.exps.length)) || decide ((5000 : Int) < x.slots.length)) || decide ((400 : Int) < x.needs.length)) with
 | true =>
  refine WC.cond (b := true) (by (try simp only [wk, wl, wx, reduceLT, reduceEqDiff, Nat.reduceBEq, reduceIte, tB, hH1]); (try rfl)) ?_
  ((repeat refine WC.seq ?_); refine WC.run ?_)
  (try simp only [wk, wl, wx, reduceLT, reduceEqDiff, Nat.reduceBEq, reduceIte])
  refine WC.ret ?_
  (try simp only [wk, wl, wx, reduceLT, reduceEqDiff, Nat.reduceBEq, reduceIte])
  refine ⟨?_, f1⟩
  have : rheadI x = false := by
   refine rhead_no fun hh => ?_
   simp only [Bool.or_eq_true, Bool.and_eq_true, decide_eq_true_eq, bne_iff_ne, ne_eq] at hH1
   obtain ⟨a1, a2, a3, a4, a5, a6, a7, a8, a9, a10⟩ := hh
   have ew : IntKind.i64.wrap (x.base + x.code) = x.base + x.code := wrap64 (by omega) (by omega)
   rw [ew] at hH1
   omega
  rw [rrightB, this, Bool.false_and]
 | false =>
 refine WC.cond (b := false) (by (try simp only [wk, wl, wx, reduceLT, reduceEqDiff, Nat.reduceBEq, reduceIte, tB, hH1]); (try rfl)) (WC.skip ?_)
 (try simp only [wk, wl, wx, reduceLT, reduceEqDiff, Nat.reduceBEq, reduceIte])
 clear tB
 have hH : rheadI x = true := by
  simp only [Bool.or_eq_false_iff, Bool.and_eq_false_iff, decide_eq_false_iff_not, bne_eq_false_iff_eq] at hH1
  obtain ⟨⟨⟨⟨⟨⟨⟨⟨⟨r1, r2⟩, r3⟩, r4⟩, r5⟩, r6⟩, r7⟩, r8⟩, r9⟩, r10⟩ := hH1
  have ew : IntKind.i64.wrap (x.base + x.code) = x.base + x.code := wrap64 (by omega) (by omega)
  rw [ew] at r7
  exact rhead_in ⟨by omega, by omega, r3, by omega, by omega, by omega, by omega, by omega, by omega, by omega⟩
 clear hH1
 obtain ⟨hh, hhe⟩ : ∃ hh, hh = h1 := ⟨h1, rfl⟩
 subst h1
 obtain ⟨a1, a2, a3, a4, a5, a6, -, a8, a9, a10⟩ := rhead_yes hH
 have w2 : IntKind.i64.wrap (x.base + x.bytes.length) = x.base + x.bytes.length := wrap64 (by omega) (by omega)
 have w3 : IntKind.i64.wrap (x.base + x.bytes.length - 8) = x.base + x.bytes.length - 8 := wrap64 (by omega) (by omega)
 ((repeat refine WC.seq ?_); refine WC.run ?_)
 (try simp only [wk, wl, wx, reduceLT, reduceEqDiff, Nat.reduceBEq, reduceIte, t1, fa60_4, Nat.zero_add, b1.at ty57 rfl, Sl.lenB im1.exps ty57 rfl])
 (repeat refine WC.seq ?_)
 refine WC.block ?_
 refine WC.while (fun m fr hq => ∃ ts i, fr = ⟨ts, 231, [], 58, none⟩ ∧ Fix (· < hh.next) hh hq ∧ m = x.exps.length - i ∧ i ≤ x.exps.length ∧ ts.get 1 = some (.ptr h.next 0) ∧ ts.get 3 = some (.int .i64 x.bytes.length) ∧ ts.get 86 = some c.exps ∧ ts.get 87 = some (.int .i64 x.exps.length) ∧ ts.get 88 = some (.int .i64 i) ∧ ∀ j, j < i → rexpP x j = true) ?_ ⟨_, 0, rfl, Fix.refl _ _, rfl, by omega, ?_, ?_, ?_, ?_, ?_, fun j hj => absurd hj (Nat.not_lt_zero _)⟩
 ·rintro m fr hq ⟨ts, i, rfl, fq, rfl, hi, t1, t3, t86, t87, t88, hal⟩
  have xq := fq.next
  have Bq := b1.fix fq (by omega)
  have imq := (im1.fix fq (fun x hx => hx)).up (K' := (· < hq.next)) (fun x hx => by omega)
  ((repeat refine WC.seq ?_); refine WC.run ?_)
  (try simp only [wk, wl, wx, reduceLT, reduceEqDiff, Nat.reduceBEq, reduceIte, t87, t88])
  (repeat refine WC.seq ?_)
  by_cases hlt : i < x.exps.length
  ·refine WC.cond (b := true) (by (try simp only [wk, wl, wx, reduceLT, reduceEqDiff, Nat.reduceBEq, reduceIte]); (try simp); (try omega)) (WC.skip ?_)
   (try simp only [wk, wl, wx, reduceLT, reduceEqDiff, Nat.reduceBEq, reduceIte])
   obtain ⟨p, p1, p2⟩ := imq.exps.at expV_length ty57 rfl ty135 rfl (by decide) rfl hlt
   have p2 := p2 hq fun _ _ _ _ _ => rfl
   have hg : x.exps[i]? = some x.exps[i] := List.getElem?_eq_getElem hlt
   (repeat refine WC.seq ?_)
   refine WC.block ?_
   ((repeat refine WC.seq ?_); refine WC.run ?_)
   (try simp only [wk, wl, wx, reduceLT, reduceEqDiff, Nat.reduceBEq, reduceIte, t86, t88, p1, p2])
   refine wop_alloc ty135 ?_
   intro h5 b5 n5 f5
   (try simp only [wk, wl, wx, reduceLT, reduceEqDiff, Nat.reduceBEq, reduceIte])
   refine sat_store b5 ty135 rfl (by decide) rfl ?_
   intro h6 b6 n6 f6
   have b6 : Has h6 hq.next (expV x.exps[i]) := b6
   have F6 : Fix (· < hq.next) hq h6 := ⟨by omega, fun c hc => by rw [f6.same c (by omega), f5.same c (by omega)]⟩
   have B6 := Bq.fix F6 (by omega)
   have im6 := imq.fix F6 (fun x hx => hx)
   have k0 : loadP (E g) h6 2 (.ptr h.next 0) = some (.int .i64 x.base) := B6.at ty2 rfl 0
   have k1 : loadP (E g) h6 2 (.ptr hq.next 1) = some (.int .i64 x.exps[i].addr) := b6.at ty2 rfl 1
   have k2 : loadP (E g) h6 9 (.ptr hq.next 0) = some (.str x.exps[i].name) := b6.at ty9 rfl 0
   have K6 : Kept h h6 := f1.trans ((fq.trans (F6.sub fun x hx => by omega)).sub fun x hx => by omega)
   (try simp only [wk, wl, wx, reduceLT, reduceEqDiff, Nat.reduceBEq, reduceIte])
   have hm : (x.exps.map (·.name))[i]? = some x.exps[i].name := by rw [List.getElem?_map, hg]; rfl
   ((repeat refine WC.seq ?_); refine WC.draw (plans := pl58_7) (by kernel_rfl) ?_; simp only [pl58_7, List.mem_cons, List.not_mem_nil, or_false, forall_eq_or_imp, forall_eq])
   refine WPlan_two 21 (M := fun fr hM => hM = h6 ∧ ∃ ts, fr = ⟨ts, 231, [], 58, none⟩ ∧ ts.get 113 = some (.bool (!incP (x.exps.map (·.name)) i)) ∧ ts.get 1 = some (.ptr h.next 0) ∧ ts.get 3 = some (.int .i64 x.bytes.length) ∧ ts.get 4 = some (.int .i64 i) ∧ ts.get 5 = some (.ptr hq.next 0) ∧ ts.get 86 = some c.exps ∧ ts.get 87 = some (.int .i64 x.exps.length) ∧ ts.get 88 = some (.int .i64 i)) rfl ?_ ?_
   ·skip
    rcases Bool.eq_false_or_eq_true (nameE x.exps[i].name != 0) with q1 | q1
    ·have q1e : ¬ nameE x.exps[i].name = 0 := by simpa using q1
     (try simp (maxSteps := 2000000) only [wk, wl, wx, reduceLT, reduceEqDiff, Nat.reduceBEq, reduceIte, wd, Chk, and_true, true_and, List.take_succ_cons, List.take_zero, un, t1, fa135_0, Nat.zero_add, k2])
     refine rnamed_ok.mono fun v hx ⟨e2, e2'⟩ => ?_
     subst e2 e2'
     (try simp (maxSteps := 2000000) only [wk, wl, wx, reduceLT, reduceEqDiff, Nat.reduceBEq, reduceIte, wd, Chk, and_true, true_and, un, t1, fa135_0, Nat.zero_add, k2, q1])
     first | refine ⟨by trivial, _, rfl, ?_⟩ | refine ⟨_, rfl, ?_⟩
     (try simp only [wk, wl, wx, reduceLT, reduceEqDiff, Nat.reduceBEq, reduceIte, t1, t3, t86, t87, t88])
     rw [incP_bad hm q1e]
     exact ⟨by trivial, by trivial, by trivial, by trivial, by trivial, by trivial, by trivial, by trivial⟩
    ·have q1e : nameE x.exps[i].name = 0 := by simpa using q1
     by_cases hz : i = 0
     ·have hpos : decide ((0 : Int) < (i : Int)) = false := decide_eq_false (by omega)
      (try simp (maxSteps := 2000000) only [wk, wl, wx, reduceLT, reduceEqDiff, Nat.reduceBEq, reduceIte, wd, Chk, and_true, true_and, List.take_succ_cons, List.take_zero, un, t1, fa135_0, Nat.zero_add, k2])
      refine rnamed_ok.mono fun v hx ⟨e2, e2'⟩ => ?_
      subst e2 e2'
      (try simp (maxSteps := 2000000) only [wk, wl, wx, reduceLT, reduceEqDiff, Nat.reduceBEq, reduceIte, wd, Chk, and_true, true_and, un, t1, fa135_0, Nat.zero_add, k2, q1, hpos])
      first | refine ⟨by trivial, _, rfl, ?_⟩ | refine ⟨_, rfl, ?_⟩
      (try simp only [wk, wl, wx, reduceLT, reduceEqDiff, Nat.reduceBEq, reduceIte, t1, t3, t86, t87, t88])
      rw [incP_first hm q1e hz]
      exact ⟨by trivial, by trivial, by trivial, by trivial, by trivial, by trivial, by trivial, by trivial⟩
     ·have hlt' : i - 1 < x.exps.length := by omega
      have hpos : decide ((0 : Int) < (i : Int)) = true := decide_eq_true (by omega)
      have ew : IntKind.i64.wrap ((i : Int) - 1) = ((i - 1 : Nat) : Int) := by rw [wrap64 (by omega) (by omega)]; omega
      have hm' : (x.exps.map (·.name))[i - 1]? = some x.exps[i - 1].name := by rw [List.getElem?_map, List.getElem?_eq_getElem hlt']; rfl
      obtain ⟨mk, po, hmk, u1, u2⟩ := Rcs.spot im6.exps expV_length ty57 rfl ty135 rfl (by decide) hlt'
      have u2 := u2 h6 fun _ _ _ _ _ => rfl
      have a0 : fieldAddrV (E g) 135 (mk po) 0 = some (mk (po + 0)) := by rcases hmk with ⟨b, hb⟩ | ⟨b, hb⟩ <;> simp only [hb, fa135_0, fg135_0]
      have u0 : loadP (E g) h6 9 (mk (po + 0)) = some (.str x.exps[i - 1].name) := u2 0 (by decide) 9 _ ty9 rfl
      (try simp (maxSteps := 2000000) only [wk, wl, wx, reduceLT, reduceEqDiff, Nat.reduceBEq, reduceIte, wd, Chk, and_true, true_and, List.take_succ_cons, List.take_zero, un, t1, fa135_0, Nat.zero_add, k2])
      refine rnamed_ok.mono fun v hx ⟨e2, e2'⟩ => ?_
      subst e2 e2'
      (try simp (maxSteps := 2000000) only [wk, wl, wx, reduceLT, reduceEqDiff, Nat.reduceBEq, reduceIte, wd, Chk, and_true, true_and, un, t1, fa135_0, fa60_4, fa60_5, Nat.zero_add, k2, q1, hpos, B6.at ty57 rfl, bin_sub, ew, u1, a0, u0, bin_sleq])
      first | refine ⟨by trivial, _, rfl, ?_⟩ | refine ⟨_, rfl, ?_⟩
      (try simp only [wk, wl, wx, reduceLT, reduceEqDiff, Nat.reduceBEq, reduceIte, t1, t3, t86, t87, t88])
      rw [incP_next hm hm' q1e hz, Bool.not_not]
      exact ⟨by trivial, by trivial, by trivial, by trivial, by trivial, by trivial, by trivial, by trivial⟩
   rintro fr hx ⟨hhe, ts, rfl, tB, t1, t3, t4, t5, t86, t87, t88⟩
   subst hx
   simp only [List.drop_succ_cons, List.drop_zero]
   refine WPlan_two 7 (M := fun fr hM => hM = h6 ∧ ∃ ts, fr = ⟨ts, 231, [], 58, none⟩ ∧ ts.get 1 = some (.ptr h.next 0) ∧ ts.get 3 = some (.int .i64 x.bytes.length) ∧ ts.get 5 = some (.ptr hq.next 0) ∧ ts.get 86 = some (c.exps) ∧ ts.get 87 = some (.int .i64 x.exps.length) ∧ ts.get 88 = some (.int .i64 i) ∧ ts.get 120 = some (.bool (((!incP (x.exps.map (·.name)) i) || decide (x.exps[i].addr < x.base))))) rfl ?_ ?_
   ·skip
    cases hB : (!incP (x.exps.map (·.name)) i) with
    | true =>
     rw [hB] at tB
     (try simp (maxSteps := 2000000) only [wk, wl, wx, reduceLT, reduceEqDiff, Nat.reduceBEq, reduceIte, wd, Chk, and_true, true_and, List.take_succ_cons, List.take_zero, un, t1, t3, t5, t86, t87, t88, hB, tB, fa135_1, fa60_0, Nat.zero_add, k0, k1, bin_add, w2])
     first | refine ⟨by trivial, _, rfl, ?_, ?_, ?_, ?_, ?_, ?_, ?_⟩ | refine ⟨_, rfl, ?_, ?_, ?_, ?_, ?_, ?_, ?_⟩
     all_goals (try simp only [wk, wl, wx, reduceLT, reduceEqDiff, Nat.reduceBEq, reduceIte, t1, t3, t5, t86, t87, t88, hB, tB, Bool.true_or, Bool.false_or, Bool.true_and, Bool.false_and])
     all_goals (first | done | rfl | trivial)
    | false =>
     rw [hB] at tB
     (try simp (maxSteps := 2000000) only [wk, wl, wx, reduceLT, reduceEqDiff, Nat.reduceBEq, reduceIte, wd, Chk, and_true, true_and, List.take_succ_cons, List.take_zero, un, t1, t3, t5, t86, t87, t88, hB, tB, fa135_1, fa60_0, Nat.zero_add, k0, k1, bin_add, w2])
     first | refine ⟨by trivial, _, rfl, ?_, ?_, ?_, ?_, ?_, ?_, ?_⟩ | refine ⟨_, rfl, ?_, ?_, ?_, ?_, ?_, ?_, ?_⟩
     all_goals (try simp only [wk, wl, wx, reduceLT, reduceEqDiff, Nat.reduceBEq, reduceIte, t1, t3, t5, t86, t87, t88, hB, tB, Bool.true_or, Bool.false_or, Bool.true_and, Bool.false_and])
     all_goals (first | done | rfl | trivial)
   clear t1 t3 t5 t86 t87 t88 tB
   rintro fr hM ⟨hhe, ts, rfl, t1, t3, t5, t86, t87, t88, tB⟩
   subst hM
   simp only [List.drop_succ_cons, List.drop_zero]
   refine WPlan_two 8 (M := fun fr hM => hM = h6 ∧ ∃ ts, fr = ⟨ts, 231, [], 58, none⟩ ∧ ts.get 1 = some (.ptr h.next 0) ∧ ts.get 3 = some (.int .i64 x.bytes.length) ∧ ts.get 5 = some (.ptr hq.next 0) ∧ ts.get 86 = some (c.exps) ∧ ts.get 87 = some (.int .i64 x.exps.length) ∧ ts.get 88 = some (.int .i64 i) ∧ ts.get 128 = some (.bool ((((!incP (x.exps.map (·.name)) i) || decide (x.exps[i].addr < x.base)) || decide (x.base + x.bytes.length < x.exps[i].addr))))) rfl ?_ ?_
   ·skip
    cases hB : ((!incP (x.exps.map (·.name)) i) || decide (x.exps[i].addr < x.base)) with
    | true =>
     rw [hB] at tB
     (try simp (maxSteps := 2000000) only [wk, wl, wx, reduceLT, reduceEqDiff, Nat.reduceBEq, reduceIte, wd, Chk, and_true, true_and, List.take_succ_cons, List.take_zero, un, t1, t3, t5, t86, t87, t88, hB, tB, fa135_1, fa60_0, Nat.zero_add, k0, k1, bin_add, w2])
     first | refine ⟨by trivial, _, rfl, ?_, ?_, ?_, ?_, ?_, ?_, ?_⟩ | refine ⟨_, rfl, ?_, ?_, ?_, ?_, ?_, ?_, ?_⟩
     all_goals (try simp only [wk, wl, wx, reduceLT, reduceEqDiff, Nat.reduceBEq, reduceIte, t1, t3, t5, t86, t87, t88, hB, tB, Bool.true_or, Bool.false_or, Bool.true_and, Bool.false_and])
     all_goals (first | done | rfl | trivial)
    | false =>
     rw [hB] at tB
     (try simp (maxSteps := 2000000) only [wk, wl, wx, reduceLT, reduceEqDiff, Nat.reduceBEq, reduceIte, wd, Chk, and_true, true_and, List.take_succ_cons, List.take_zero, un, t1, t3, t5, t86, t87, t88, hB, tB, fa135_1, fa60_0, Nat.zero_add, k0, k1, bin_add, w2])
     first | refine ⟨by trivial, _, rfl, ?_, ?_, ?_, ?_, ?_, ?_, ?_⟩ | refine ⟨_, rfl, ?_, ?_, ?_, ?_, ?_, ?_, ?_⟩
     all_goals (try simp only [wk, wl, wx, reduceLT, reduceEqDiff, Nat.reduceBEq, reduceIte, t1, t3, t5, t86, t87, t88, hB, tB, Bool.true_or, Bool.false_or, Bool.true_and, Bool.false_and])
     all_goals (first | done | rfl | trivial)
   clear t1 t3 t5 t86 t87 t88 tB
   rintro fr hM ⟨hhe, ts, rfl, t1, t3, t5, t86, t87, t88, tB⟩
   subst hM
   simp only [List.drop_succ_cons, List.drop_zero]
   (try simp (maxSteps := 2000000) only [wk, wl, wx, reduceLT, reduceEqDiff, Nat.reduceBEq, reduceIte, wd, Chk, and_true, true_and])
   (repeat refine WC.seq ?_)
   cases hB : (((!incP (x.exps.map (·.name)) i) || decide (x.exps[i].addr < x.base)) || decide (x.base + x.bytes.length < x.exps[i].addr)) with
   | true =>
    refine WC.cond (b := true) (by (try simp only [wk, wl, wx, reduceLT, reduceEqDiff, Nat.reduceBEq, reduceIte, tB, hB]); (try rfl)) ?_
    ((repeat refine WC.seq ?_); refine WC.run ?_)
    (try simp only [wk, wl, wx, reduceLT, reduceEqDiff, Nat.reduceBEq, reduceIte])
    refine WC.ret ?_
    (try simp only [wk, wl, wx, reduceLT, reduceEqDiff, Nat.reduceBEq, reduceIte])
    refine ⟨?_, K6⟩
    simp only [Bool.or_eq_true, decide_eq_true_eq, Bool.not_eq_true'] at hB
    have : rexpP x i = false := by
     refine Bool.eq_false_iff.2 fun h' => ?_
     simp only [rexpP, expP, hg, Bool.and_eq_true, decide_eq_true_eq] at h'
     obtain ⟨s1, s2, s3⟩ := h'
     rcases hB with ((hB | hB) | hB)
     ·rw [s1] at hB; cases hB
     ·omega
     ·omega
    rw [rrightB, hH, allB_false hlt this, Bool.false_and, Bool.and_false]
   | false =>
   refine WC.cond (b := false) (by (try simp only [wk, wl, wx, reduceLT, reduceEqDiff, Nat.reduceBEq, reduceIte, tB, hB]); (try rfl)) (WC.skip ?_)
   (try simp only [wk, wl, wx, reduceLT, reduceEqDiff, Nat.reduceBEq, reduceIte])
   clear tB
   simp only [Bool.or_eq_false_iff, decide_eq_false_iff_not, Bool.not_eq_false'] at hB
   obtain ⟨⟨hI, q1⟩, q2⟩ := hB
   ((repeat refine WC.seq ?_); refine WC.run ?_)
   (try simp only [wk, wl, wx, reduceLT, reduceEqDiff, Nat.reduceBEq, reduceIte, t88, bin_add])
   refine ⟨_, ?_, _, i + 1, rfl, fq.trans (F6.sub fun x hx => by omega), rfl, by omega, ?_⟩
   ·omega
   (try simp only [wk, wl, wx, reduceLT, reduceEqDiff, Nat.reduceBEq, reduceIte, t1, t3, t86, t87])
   refine ⟨trivial, trivial, trivial, trivial, ?_, below_succ hal (by simp only [rexpP, expP, hI, hg]; simp; omega)⟩
   rw [wrap64 (by omega) (by omega)]; rfl
  ·refine WC.cond (b := false) (by (try simp only [wk, wl, wx, reduceLT, reduceEqDiff, Nat.reduceBEq, reduceIte]); (try simp); (try omega)) (WC.exit ?_)
   have : i = x.exps.length := by omega
   subst this
   have hX := allB_true hal
   (try simp only [wk, wl, wx, reduceLT, reduceEqDiff, Nat.reduceBEq, reduceIte])
   have Kq : Kept h hq := f1.trans (fq.sub fun x hx => by omega)
   clear t86 t87 t88 hal
   ((repeat refine WC.seq ?_); refine WC.run ?_)
   (try simp only [wk, wl, wx, reduceLT, reduceEqDiff, Nat.reduceBEq, reduceIte, t1, fa60_5, Nat.zero_add, Bq.at ty58 rfl, Sl.lenB imq.slots ty58 rfl])
   (repeat refine WC.seq ?_)
   refine WC.block ?_
   refine WC.while (fun m fr hk => ∃ ts i, fr = ⟨ts, 231, [], 58, none⟩ ∧ Fix (· < hq.next) hq hk ∧ m = x.slots.length - i ∧ i ≤ x.slots.length ∧ ts.get 1 = some (.ptr h.next 0) ∧ ts.get 3 = some (.int .i64 x.bytes.length) ∧ ts.get 131 = some c.slots ∧ ts.get 132 = some (.int .i64 x.slots.length) ∧ ts.get 133 = some (.int .i64 i) ∧ ∀ j, j < i → rslotP x j = true) ?_ ⟨_, 0, rfl, Fix.refl _ _, rfl, by omega, ?_, ?_, ?_, ?_, ?_, fun j hj => absurd hj (Nat.not_lt_zero _)⟩
   ·rintro m fr hk ⟨ts, i, rfl, fk, rfl, hi, t1, t3, t131, t132, t133, hal⟩
    have xk := fk.next
    have Bk := Bq.fix fk (by omega)
    have imk := (imq.fix fk (fun x hx => hx)).up (K' := (· < hk.next)) (fun x hx => by omega)
    ((repeat refine WC.seq ?_); refine WC.run ?_)
    (try simp only [wk, wl, wx, reduceLT, reduceEqDiff, Nat.reduceBEq, reduceIte, t132, t133])
    (repeat refine WC.seq ?_)
    by_cases hlt : i < x.slots.length
    ·refine WC.cond (b := true) (by (try simp only [wk, wl, wx, reduceLT, reduceEqDiff, Nat.reduceBEq, reduceIte]); (try simp); (try omega)) (WC.skip ?_)
     (try simp only [wk, wl, wx, reduceLT, reduceEqDiff, Nat.reduceBEq, reduceIte])
     obtain ⟨p, p1, p2⟩ := imk.slots.at slotV_length ty58 rfl ty136 rfl (by decide) rfl hlt
     have p2 := p2 hk fun _ _ _ _ _ => rfl
     have hg : x.slots[i]? = some x.slots[i] := List.getElem?_eq_getElem hlt
     (repeat refine WC.seq ?_)
     refine WC.block ?_
     ((repeat refine WC.seq ?_); refine WC.run ?_)
     (try simp only [wk, wl, wx, reduceLT, reduceEqDiff, Nat.reduceBEq, reduceIte, t131, t133, p1, p2])
     refine wop_alloc ty136 ?_
     intro h5 b5 n5 f5
     (try simp only [wk, wl, wx, reduceLT, reduceEqDiff, Nat.reduceBEq, reduceIte])
     refine sat_store b5 ty136 rfl (by decide) rfl ?_
     intro h6 b6 n6 f6
     have b6 : Has h6 hk.next (slotV x.slots[i]) := b6
     have F6 : Fix (· < hk.next) hk h6 := ⟨by omega, fun c hc => by rw [f6.same c (by omega), f5.same c (by omega)]⟩
     have B6 := Bk.fix F6 (by omega)
     have im6 := imk.fix F6 (fun x hx => hx)
     have k0 : loadP (E g) h6 2 (.ptr h.next 0) = some (.int .i64 x.base) := B6.at ty2 rfl 0
     have k1 : loadP (E g) h6 2 (.ptr hk.next 1) = some (.int .i64 x.slots[i].addr) := b6.at ty2 rfl 1
     have k2 : loadP (E g) h6 9 (.ptr hk.next 0) = some (.str x.slots[i].name) := b6.at ty9 rfl 0
     have k3 : loadP (E g) h6 2 (.ptr hk.next 2) = some (.int .i64 x.slots[i].bound) := b6.at ty2 rfl 2
     have K6 : Kept h h6 := Kq.trans ((fk.trans (F6.sub fun x hx => by omega)).sub fun x hx => by omega)
     (try simp only [wk, wl, wx, reduceLT, reduceEqDiff, Nat.reduceBEq, reduceIte])
     have hm : (x.slots.map (·.name))[i]? = some x.slots[i].name := by rw [List.getElem?_map, hg]; rfl
     ((repeat refine WC.seq ?_); refine WC.draw (plans := pl58_13) (by kernel_rfl) ?_; simp only [pl58_13, List.mem_cons, List.not_mem_nil, or_false, forall_eq_or_imp, forall_eq])
     refine WPlan_two 21 (M := fun fr hM => hM = h6 ∧ ∃ ts, fr = ⟨ts, 231, [], 58, none⟩ ∧ ts.get 158 = some (.bool (!incP (x.slots.map (·.name)) i)) ∧ ts.get 1 = some (.ptr h.next 0) ∧ ts.get 3 = some (.int .i64 x.bytes.length) ∧ ts.get 6 = some (.int .i64 i) ∧ ts.get 7 = some (.ptr hk.next 0) ∧ ts.get 131 = some c.slots ∧ ts.get 132 = some (.int .i64 x.slots.length) ∧ ts.get 133 = some (.int .i64 i)) rfl ?_ ?_
     ·skip
      rcases Bool.eq_false_or_eq_true (nameE x.slots[i].name != 0) with q1 | q1
      ·have q1e : ¬ nameE x.slots[i].name = 0 := by simpa using q1
       (try simp (maxSteps := 2000000) only [wk, wl, wx, reduceLT, reduceEqDiff, Nat.reduceBEq, reduceIte, wd, Chk, and_true, true_and, List.take_succ_cons, List.take_zero, un, t1, fa136_0, Nat.zero_add, k2])
       refine rnamed_ok.mono fun v hx ⟨e2, e2'⟩ => ?_
       subst e2 e2'
       (try simp (maxSteps := 2000000) only [wk, wl, wx, reduceLT, reduceEqDiff, Nat.reduceBEq, reduceIte, wd, Chk, and_true, true_and, un, t1, fa136_0, Nat.zero_add, k2, q1])
       first | refine ⟨by trivial, _, rfl, ?_⟩ | refine ⟨_, rfl, ?_⟩
       (try simp only [wk, wl, wx, reduceLT, reduceEqDiff, Nat.reduceBEq, reduceIte, t1, t3, t131, t132, t133])
       rw [incP_bad hm q1e]
       exact ⟨by trivial, by trivial, by trivial, by trivial, by trivial, by trivial, by trivial, by trivial⟩
      ·have q1e : nameE x.slots[i].name = 0 := by simpa using q1
       by_cases hz : i = 0
       ·have hpos : decide ((0 : Int) < (i : Int)) = false := decide_eq_false (by omega)
        (try simp (maxSteps := 2000000) only [wk, wl, wx, reduceLT, reduceEqDiff, Nat.reduceBEq, reduceIte, wd, Chk, and_true, true_and, List.take_succ_cons, List.take_zero, un, t1, fa136_0, Nat.zero_add, k2])
        refine rnamed_ok.mono fun v hx ⟨e2, e2'⟩ => ?_
        subst e2 e2'
        (try simp (maxSteps := 2000000) only [wk, wl, wx, reduceLT, reduceEqDiff, Nat.reduceBEq, reduceIte, wd, Chk, and_true, true_and, un, t1, fa136_0, Nat.zero_add, k2, q1, hpos])
        first | refine ⟨by trivial, _, rfl, ?_⟩ | refine ⟨_, rfl, ?_⟩
        (try simp only [wk, wl, wx, reduceLT, reduceEqDiff, Nat.reduceBEq, reduceIte, t1, t3, t131, t132, t133])
        rw [incP_first hm q1e hz]
        exact ⟨by trivial, by trivial, by trivial, by trivial, by trivial, by trivial, by trivial, by trivial⟩
       ·have hlt' : i - 1 < x.slots.length := by omega
        have hpos : decide ((0 : Int) < (i : Int)) = true := decide_eq_true (by omega)
        have ew : IntKind.i64.wrap ((i : Int) - 1) = ((i - 1 : Nat) : Int) := by rw [wrap64 (by omega) (by omega)]; omega
        have hm' : (x.slots.map (·.name))[i - 1]? = some x.slots[i - 1].name := by rw [List.getElem?_map, List.getElem?_eq_getElem hlt']; rfl
        obtain ⟨mk, po, hmk, u1, u2⟩ := Rcs.spot im6.slots slotV_length ty58 rfl ty136 rfl (by decide) hlt'
        have u2 := u2 h6 fun _ _ _ _ _ => rfl
        have a0 : fieldAddrV (E g) 136 (mk po) 0 = some (mk (po + 0)) := by rcases hmk with ⟨b, hb⟩ | ⟨b, hb⟩ <;> simp only [hb, fa136_0, fg136_0]
        have u0 : loadP (E g) h6 9 (mk (po + 0)) = some (.str x.slots[i - 1].name) := u2 0 (by decide) 9 _ ty9 rfl
        (try simp (maxSteps := 2000000) only [wk, wl, wx, reduceLT, reduceEqDiff, Nat.reduceBEq, reduceIte, wd, Chk, and_true, true_and, List.take_succ_cons, List.take_zero, un, t1, fa136_0, Nat.zero_add, k2])
        refine rnamed_ok.mono fun v hx ⟨e2, e2'⟩ => ?_
        subst e2 e2'
        (try simp (maxSteps := 2000000) only [wk, wl, wx, reduceLT, reduceEqDiff, Nat.reduceBEq, reduceIte, wd, Chk, and_true, true_and, un, t1, fa136_0, fa60_4, fa60_5, Nat.zero_add, k2, q1, hpos, B6.at ty58 rfl, bin_sub, ew, u1, a0, u0, bin_sleq])
        first | refine ⟨by trivial, _, rfl, ?_⟩ | refine ⟨_, rfl, ?_⟩
        (try simp only [wk, wl, wx, reduceLT, reduceEqDiff, Nat.reduceBEq, reduceIte, t1, t3, t131, t132, t133])
        rw [incP_next hm hm' q1e hz, Bool.not_not]
        exact ⟨by trivial, by trivial, by trivial, by trivial, by trivial, by trivial, by trivial, by trivial⟩
     rintro fr hx ⟨hhe, ts, rfl, tB, t1, t3, t6, t7, t131, t132, t133⟩
     subst hx
     simp only [List.drop_succ_cons, List.drop_zero]
     refine WPlan_two 7 (M := fun fr hM => hM = h6 ∧ ∃ ts, fr = ⟨ts, 231, [], 58, none⟩ ∧ ts.get 1 = some (.ptr h.next 0) ∧ ts.get 3 = some (.int .i64 x.bytes.length) ∧ ts.get 6 = some (.int .i64 i) ∧ ts.get 7 = some (.ptr hk.next 0) ∧ ts.get 131 = some (c.slots) ∧ ts.get 132 = some (.int .i64 x.slots.length) ∧ ts.get 133 = some (.int .i64 i) ∧ ts.get 165 = some (.bool (((!incP (x.slots.map (·.name)) i) || decide (x.slots[i].addr < x.base))))) rfl ?_ ?_
     ·skip
      cases hB : (!incP (x.slots.map (·.name)) i) with
      | true =>
       rw [hB] at tB
       (try simp (maxSteps := 2000000) only [wk, wl, wx, reduceLT, reduceEqDiff, Nat.reduceBEq, reduceIte, wd, Chk, and_true, true_and, List.take_succ_cons, List.take_zero, un, t1, t3, t6, t7, t131, t132, t133, hB, tB, fa136_1, fa136_2, fa60_0, Nat.zero_add, k0, k1, k3, bin_add, bin_sub, w2, w3, r8])
       first | refine ⟨by trivial, _, rfl, ?_, ?_, ?_, ?_, ?_, ?_, ?_, ?_⟩ | refine ⟨_, rfl, ?_, ?_, ?_, ?_, ?_, ?_, ?_, ?_⟩
       all_goals (try simp only [wk, wl, wx, reduceLT, reduceEqDiff, Nat.reduceBEq, reduceIte, t1, t3, t6, t7, t131, t132, t133, hB, tB, Bool.true_or, Bool.false_or, Bool.true_and, Bool.false_and])
       all_goals (first | done | rfl | trivial)
      | false =>
       rw [hB] at tB
       (try simp (maxSteps := 2000000) only [wk, wl, wx, reduceLT, reduceEqDiff, Nat.reduceBEq, reduceIte, wd, Chk, and_true, true_and, List.take_succ_cons, List.take_zero, un, t1, t3, t6, t7, t131, t132, t133, hB, tB, fa136_1, fa136_2, fa60_0, Nat.zero_add, k0, k1, k3, bin_add, bin_sub, w2, w3, r8])
       first | refine ⟨by trivial, _, rfl, ?_, ?_, ?_, ?_, ?_, ?_, ?_, ?_⟩ | refine ⟨_, rfl, ?_, ?_, ?_, ?_, ?_, ?_, ?_, ?_⟩
       all_goals (try simp only [wk, wl, wx, reduceLT, reduceEqDiff, Nat.reduceBEq, reduceIte, t1, t3, t6, t7, t131, t132, t133, hB, tB, Bool.true_or, Bool.false_or, Bool.true_and, Bool.false_and])
       all_goals (first | done | rfl | trivial)
     clear t1 t3 t6 t7 t131 t132 t133 tB
     rintro fr hM ⟨hhe, ts, rfl, t1, t3, t6, t7, t131, t132, t133, tB⟩
     subst hM
     simp only [List.drop_succ_cons, List.drop_zero]
     refine WPlan_two 10 (M := fun fr hM => hM = h6 ∧ ∃ ts, fr = ⟨ts, 231, [], 58, none⟩ ∧ ts.get 1 = some (.ptr h.next 0) ∧ ts.get 3 = some (.int .i64 x.bytes.length) ∧ ts.get 6 = some (.int .i64 i) ∧ ts.get 7 = some (.ptr hk.next 0) ∧ ts.get 131 = some (c.slots) ∧ ts.get 132 = some (.int .i64 x.slots.length) ∧ ts.get 133 = some (.int .i64 i) ∧ ts.get 175 = some (.bool ((((!incP (x.slots.map (·.name)) i) || decide (x.slots[i].addr < x.base)) || decide (x.base + x.bytes.length - 8 < x.slots[i].addr))))) rfl ?_ ?_
     ·skip
      cases hB : ((!incP (x.slots.map (·.name)) i) || decide (x.slots[i].addr < x.base)) with
      | true =>
       rw [hB] at tB
       (try simp (maxSteps := 2000000) only [wk, wl, wx, reduceLT, reduceEqDiff, Nat.reduceBEq, reduceIte, wd, Chk, and_true, true_and, List.take_succ_cons, List.take_zero, un, t1, t3, t6, t7, t131, t132, t133, hB, tB, fa136_1, fa136_2, fa60_0, Nat.zero_add, k0, k1, k3, bin_add, bin_sub, w2, w3, r8])
       first | refine ⟨by trivial, _, rfl, ?_, ?_, ?_, ?_, ?_, ?_, ?_, ?_⟩ | refine ⟨_, rfl, ?_, ?_, ?_, ?_, ?_, ?_, ?_, ?_⟩
       all_goals (try simp only [wk, wl, wx, reduceLT, reduceEqDiff, Nat.reduceBEq, reduceIte, t1, t3, t6, t7, t131, t132, t133, hB, tB, Bool.true_or, Bool.false_or, Bool.true_and, Bool.false_and])
       all_goals (first | done | rfl | trivial)
      | false =>
       rw [hB] at tB
       (try simp (maxSteps := 2000000) only [wk, wl, wx, reduceLT, reduceEqDiff, Nat.reduceBEq, reduceIte, wd, Chk, and_true, true_and, List.take_succ_cons, List.take_zero, un, t1, t3, t6, t7, t131, t132, t133, hB, tB, fa136_1, fa136_2, fa60_0, Nat.zero_add, k0, k1, k3, bin_add, bin_sub, w2, w3, r8])
       first | refine ⟨by trivial, _, rfl, ?_, ?_, ?_, ?_, ?_, ?_, ?_, ?_⟩ | refine ⟨_, rfl, ?_, ?_, ?_, ?_, ?_, ?_, ?_, ?_⟩
       all_goals (try simp only [wk, wl, wx, reduceLT, reduceEqDiff, Nat.reduceBEq, reduceIte, t1, t3, t6, t7, t131, t132, t133, hB, tB, Bool.true_or, Bool.false_or, Bool.true_and, Bool.false_and])
       all_goals (first | done | rfl | trivial)
     clear t1 t3 t6 t7 t131 t132 t133 tB
     rintro fr hM ⟨hhe, ts, rfl, t1, t3, t6, t7, t131, t132, t133, tB⟩
     subst hM
     simp only [List.drop_succ_cons, List.drop_zero]
     refine WPlan_two 6 (M := fun fr hM => hM = h6 ∧ ∃ ts, fr = ⟨ts, 231, [], 58, none⟩ ∧ ts.get 1 = some (.ptr h.next 0) ∧ ts.get 3 = some (.int .i64 x.bytes.length) ∧ ts.get 6 = some (.int .i64 i) ∧ ts.get 7 = some (.ptr hk.next 0) ∧ ts.get 131 = some (c.slots) ∧ ts.get 132 = some (.int .i64 x.slots.length) ∧ ts.get 133 = some (.int .i64 i) ∧ ts.get 181 = some (.bool (((((!incP (x.slots.map (·.name)) i) || decide (x.slots[i].addr < x.base)) || decide (x.base + x.bytes.length - 8 < x.slots[i].addr)) || (x.slots[i].addr.tmod 8 != 0))))) rfl ?_ ?_
     ·skip
      cases hB : (((!incP (x.slots.map (·.name)) i) || decide (x.slots[i].addr < x.base)) || decide (x.base + x.bytes.length - 8 < x.slots[i].addr)) with
      | true =>
       rw [hB] at tB
       (try simp (maxSteps := 2000000) only [wk, wl, wx, reduceLT, reduceEqDiff, Nat.reduceBEq, reduceIte, wd, Chk, and_true, true_and, List.take_succ_cons, List.take_zero, un, t1, t3, t6, t7, t131, t132, t133, hB, tB, fa136_1, fa136_2, fa60_0, Nat.zero_add, k0, k1, k3, bin_add, bin_sub, w2, w3, r8])
       first | refine ⟨by trivial, _, rfl, ?_, ?_, ?_, ?_, ?_, ?_, ?_, ?_⟩ | refine ⟨_, rfl, ?_, ?_, ?_, ?_, ?_, ?_, ?_, ?_⟩
       all_goals (try simp only [wk, wl, wx, reduceLT, reduceEqDiff, Nat.reduceBEq, reduceIte, t1, t3, t6, t7, t131, t132, t133, hB, tB, Bool.true_or, Bool.false_or, Bool.true_and, Bool.false_and])
       all_goals (first | done | rfl | trivial)
      | false =>
       rw [hB] at tB
       (try simp (maxSteps := 2000000) only [wk, wl, wx, reduceLT, reduceEqDiff, Nat.reduceBEq, reduceIte, wd, Chk, and_true, true_and, List.take_succ_cons, List.take_zero, un, t1, t3, t6, t7, t131, t132, t133, hB, tB, fa136_1, fa136_2, fa60_0, Nat.zero_add, k0, k1, k3, bin_add, bin_sub, w2, w3, r8])
       first | refine ⟨by trivial, _, rfl, ?_, ?_, ?_, ?_, ?_, ?_, ?_, ?_⟩ | refine ⟨_, rfl, ?_, ?_, ?_, ?_, ?_, ?_, ?_, ?_⟩
       all_goals (try simp only [wk, wl, wx, reduceLT, reduceEqDiff, Nat.reduceBEq, reduceIte, t1, t3, t6, t7, t131, t132, t133, hB, tB, Bool.true_or, Bool.false_or, Bool.true_and, Bool.false_and])
       all_goals (first | done | rfl | trivial)
     clear t1 t3 t6 t7 t131 t132 t133 tB
     rintro fr hM ⟨hhe, ts, rfl, t1, t3, t6, t7, t131, t132, t133, tB⟩
     subst hM
     simp only [List.drop_succ_cons, List.drop_zero]
     refine WPlan_two 5 (M := fun fr hM => hM = h6 ∧ ∃ ts, fr = ⟨ts, 231, [], 58, none⟩ ∧ ts.get 1 = some (.ptr h.next 0) ∧ ts.get 3 = some (.int .i64 x.bytes.length) ∧ ts.get 6 = some (.int .i64 i) ∧ ts.get 7 = some (.ptr hk.next 0) ∧ ts.get 131 = some (c.slots) ∧ ts.get 132 = some (.int .i64 x.slots.length) ∧ ts.get 133 = some (.int .i64 i) ∧ ts.get 186 = some (.bool ((((((!incP (x.slots.map (·.name)) i) || decide (x.slots[i].addr < x.base)) || decide (x.base + x.bytes.length - 8 < x.slots[i].addr)) || (x.slots[i].addr.tmod 8 != 0)) || decide (x.slots[i].bound < 0))))) rfl ?_ ?_
     ·skip
      cases hB : ((((!incP (x.slots.map (·.name)) i) || decide (x.slots[i].addr < x.base)) || decide (x.base + x.bytes.length - 8 < x.slots[i].addr)) || (x.slots[i].addr.tmod 8 != 0)) with
      | true =>
       rw [hB] at tB
       (try simp (maxSteps := 2000000) only [wk, wl, wx, reduceLT, reduceEqDiff, Nat.reduceBEq, reduceIte, wd, Chk, and_true, true_and, List.take_succ_cons, List.take_zero, un, t1, t3, t6, t7, t131, t132, t133, hB, tB, fa136_1, fa136_2, fa60_0, Nat.zero_add, k0, k1, k3, bin_add, bin_sub, w2, w3, r8])
       first | refine ⟨by trivial, _, rfl, ?_, ?_, ?_, ?_, ?_, ?_, ?_, ?_⟩ | refine ⟨_, rfl, ?_, ?_, ?_, ?_, ?_, ?_, ?_, ?_⟩
       all_goals (try simp only [wk, wl, wx, reduceLT, reduceEqDiff, Nat.reduceBEq, reduceIte, t1, t3, t6, t7, t131, t132, t133, hB, tB, Bool.true_or, Bool.false_or, Bool.true_and, Bool.false_and])
       all_goals (first | done | rfl | trivial)
      | false =>
       rw [hB] at tB
       (try simp (maxSteps := 2000000) only [wk, wl, wx, reduceLT, reduceEqDiff, Nat.reduceBEq, reduceIte, wd, Chk, and_true, true_and, List.take_succ_cons, List.take_zero, un, t1, t3, t6, t7, t131, t132, t133, hB, tB, fa136_1, fa136_2, fa60_0, Nat.zero_add, k0, k1, k3, bin_add, bin_sub, w2, w3, r8])
       first | refine ⟨by trivial, _, rfl, ?_, ?_, ?_, ?_, ?_, ?_, ?_, ?_⟩ | refine ⟨_, rfl, ?_, ?_, ?_, ?_, ?_, ?_, ?_, ?_⟩
       all_goals (try simp only [wk, wl, wx, reduceLT, reduceEqDiff, Nat.reduceBEq, reduceIte, t1, t3, t6, t7, t131, t132, t133, hB, tB, Bool.true_or, Bool.false_or, Bool.true_and, Bool.false_and])
       all_goals (first | done | rfl | trivial)
     clear t1 t3 t6 t7 t131 t132 t133 tB
     rintro fr hM ⟨hhe, ts, rfl, t1, t3, t6, t7, t131, t132, t133, tB⟩
     subst hM
     simp only [List.drop_succ_cons, List.drop_zero]
     refine WPlan_two 4 (M := fun fr hM => hM = h6 ∧ ∃ ts, fr = ⟨ts, 231, [], 58, none⟩ ∧ ts.get 1 = some (.ptr h.next 0) ∧ ts.get 3 = some (.int .i64 x.bytes.length) ∧ ts.get 6 = some (.int .i64 i) ∧ ts.get 7 = some (.ptr hk.next 0) ∧ ts.get 131 = some (c.slots) ∧ ts.get 132 = some (.int .i64 x.slots.length) ∧ ts.get 133 = some (.int .i64 i) ∧ ts.get 190 = some (.bool (((((((!incP (x.slots.map (·.name)) i) || decide (x.slots[i].addr < x.base)) || decide (x.base + x.bytes.length - 8 < x.slots[i].addr)) || (x.slots[i].addr.tmod 8 != 0)) || decide (x.slots[i].bound < 0)) || decide ((4294967296 : Int) < x.slots[i].bound))))) rfl ?_ ?_
     ·skip
      cases hB : (((((!incP (x.slots.map (·.name)) i) || decide (x.slots[i].addr < x.base)) || decide (x.base + x.bytes.length - 8 < x.slots[i].addr)) || (x.slots[i].addr.tmod 8 != 0)) || decide (x.slots[i].bound < 0)) with
      | true =>
       rw [hB] at tB
       (try simp (maxSteps := 2000000) only [wk, wl, wx, reduceLT, reduceEqDiff, Nat.reduceBEq, reduceIte, wd, Chk, and_true, true_and, List.take_succ_cons, List.take_zero, un, t1, t3, t6, t7, t131, t132, t133, hB, tB, fa136_1, fa136_2, fa60_0, Nat.zero_add, k0, k1, k3, bin_add, bin_sub, w2, w3, r8])
       first | refine ⟨by trivial, _, rfl, ?_, ?_, ?_, ?_, ?_, ?_, ?_, ?_⟩ | refine ⟨_, rfl, ?_, ?_, ?_, ?_, ?_, ?_, ?_, ?_⟩
       all_goals (try simp only [wk, wl, wx, reduceLT, reduceEqDiff, Nat.reduceBEq, reduceIte, t1, t3, t6, t7, t131, t132, t133, hB, tB, Bool.true_or, Bool.false_or, Bool.true_and, Bool.false_and])
       all_goals (first | done | rfl | trivial)
      | false =>
       rw [hB] at tB
       (try simp (maxSteps := 2000000) only [wk, wl, wx, reduceLT, reduceEqDiff, Nat.reduceBEq, reduceIte, wd, Chk, and_true, true_and, List.take_succ_cons, List.take_zero, un, t1, t3, t6, t7, t131, t132, t133, hB, tB, fa136_1, fa136_2, fa60_0, Nat.zero_add, k0, k1, k3, bin_add, bin_sub, w2, w3, r8])
       first | refine ⟨by trivial, _, rfl, ?_, ?_, ?_, ?_, ?_, ?_, ?_, ?_⟩ | refine ⟨_, rfl, ?_, ?_, ?_, ?_, ?_, ?_, ?_, ?_⟩
       all_goals (try simp only [wk, wl, wx, reduceLT, reduceEqDiff, Nat.reduceBEq, reduceIte, t1, t3, t6, t7, t131, t132, t133, hB, tB, Bool.true_or, Bool.false_or, Bool.true_and, Bool.false_and])
       all_goals (first | done | rfl | trivial)
     clear t1 t3 t6 t7 t131 t132 t133 tB
     rintro fr hM ⟨hhe, ts, rfl, t1, t3, t6, t7, t131, t132, t133, tB⟩
     subst hM
     simp only [List.drop_succ_cons, List.drop_zero]
     (try simp (maxSteps := 2000000) only [wk, wl, wx, reduceLT, reduceEqDiff, Nat.reduceBEq, reduceIte, wd, Chk, and_true, true_and])
     (repeat refine WC.seq ?_)
     cases hB : ((((((!incP (x.slots.map (·.name)) i) || decide (x.slots[i].addr < x.base)) || decide (x.base + x.bytes.length - 8 < x.slots[i].addr)) || (x.slots[i].addr.tmod 8 != 0)) || decide (x.slots[i].bound < 0)) || decide ((4294967296 : Int) < x.slots[i].bound)) with
     | true =>
      refine WC.cond (b := true) (by (try simp only [wk, wl, wx, reduceLT, reduceEqDiff, Nat.reduceBEq, reduceIte, tB, hB]); (try rfl)) ?_
      ((repeat refine WC.seq ?_); refine WC.run ?_)
      (try simp only [wk, wl, wx, reduceLT, reduceEqDiff, Nat.reduceBEq, reduceIte])
      refine WC.ret ?_
      (try simp only [wk, wl, wx, reduceLT, reduceEqDiff, Nat.reduceBEq, reduceIte])
      refine ⟨?_, K6⟩
      simp only [Bool.or_eq_true, decide_eq_true_eq, bne_iff_ne, ne_eq, Bool.not_eq_true'] at hB
      have : rslotP x i = false := by
       refine Bool.eq_false_iff.2 fun h' => ?_
       simp only [rslotP, slotP, hg, Bool.and_eq_true, decide_eq_true_eq, Bool.not_eq_true'] at h'
       obtain ⟨s0, s1, s2, s3, s4, s5, s6⟩ := h'
       rcases hB with (((((hB | hB) | hB) | hB) | hB) | hB)
       ·rw [s0] at hB; cases hB
       all_goals (first | omega | exact hB s3)
      rw [rrightB, hH, hX, allB_false hlt this, Bool.false_and, Bool.and_false, Bool.and_false]
     | false =>
     refine WC.cond (b := false) (by (try simp only [wk, wl, wx, reduceLT, reduceEqDiff, Nat.reduceBEq, reduceIte, tB, hB]); (try rfl)) (WC.skip ?_)
     (try simp only [wk, wl, wx, reduceLT, reduceEqDiff, Nat.reduceBEq, reduceIte])
     clear tB
     simp only [Bool.or_eq_false_iff, decide_eq_false_iff_not, bne_eq_false_iff_eq, Bool.not_eq_false'] at hB
     obtain ⟨⟨⟨⟨⟨hI, q1⟩, q2⟩, q3⟩, q4⟩, q5⟩ := hB
     obtain ⟨hx, hxe⟩ : ∃ hx, hx = h6 := ⟨h6, rfl⟩
     subst h6
     have q3' : x.slots[i].addr.tmod 8 = 0 := q3
     have hP : slotP x i = !((x.slots.take i).map (·.addr)).contains x.slots[i].addr := by
      simp only [slotP, hg]
      rw [decide_eq_true (show x.base ≤ x.slots[i].addr by omega), decide_eq_true (show x.slots[i].addr ≤ x.base + x.bytes.length - 8 by omega), decide_eq_true q3', decide_eq_true (show (0 : Int) ≤ x.slots[i].bound by omega), decide_eq_true (show x.slots[i].bound ≤ 4294967296 by omega)]
      simp only [Bool.true_and]
     ((repeat refine WC.seq ?_); refine WC.run ?_)
     (try simp only [wk, wl, wx, reduceLT, reduceEqDiff, Nat.reduceBEq, reduceIte])
     (repeat refine WC.seq ?_)
     refine WC.block ?_
     refine WC.while (fun m fr hj => ∃ ts j, fr = ⟨ts, 231, [], 58, none⟩ ∧ hj = hx ∧ m = i - j ∧ j ≤ i ∧ ts.get 1 = some (.ptr h.next 0) ∧ ts.get 3 = some (.int .i64 x.bytes.length) ∧ ts.get 6 = some (.int .i64 i) ∧ ts.get 7 = some (.ptr hk.next 0) ∧ ts.get 8 = some (.int .i64 j) ∧ ts.get 131 = some c.slots ∧ ts.get 132 = some (.int .i64 x.slots.length) ∧ ts.get 133 = some (.int .i64 i) ∧ ((x.slots.take j).map (·.addr)).contains x.slots[i].addr = false) ?_ ⟨_, 0, rfl, rfl, rfl, by omega, ?_, ?_, ?_, ?_, ?_, ?_, ?_, ?_, rfl⟩
     ·rintro m fr hj ⟨ts, j, rfl, rfl, rfl, hji, t1, t3, t6, t7, t8, t131, t132, t133, hno⟩
      ((repeat refine WC.seq ?_); refine WC.run ?_)
      (try simp only [wk, wl, wx, reduceLT, reduceEqDiff, Nat.reduceBEq, reduceIte, t6, t8])
      (repeat refine WC.seq ?_)
      by_cases hjt : j < i
      ·refine WC.cond (b := true) (by (try simp only [wk, wl, wx, reduceLT, reduceEqDiff, Nat.reduceBEq, reduceIte]); (try simp); (try omega)) (WC.skip ?_)
       (try simp only [wk, wl, wx, reduceLT, reduceEqDiff, Nat.reduceBEq, reduceIte])
       have hjl : j < x.slots.length := by omega
       obtain ⟨mk, po, hmk, u1, u2⟩ := Rcs.spot im6.slots slotV_length ty58 rfl ty136 rfl (by decide) hjl
       have u2 := u2 hj fun _ _ _ _ _ => rfl
       have a0 : fieldAddrV (E g) 136 (mk po) 1 = some (mk (po + 1)) := by rcases hmk with ⟨b, hb⟩ | ⟨b, hb⟩ <;> simp only [hb, fa136_1, fg136_1]
       have u0 : loadP (E g) hj 2 (mk (po + 1)) = some (.int .i64 x.slots[j].addr) := u2 1 (by decide) 2 _ ty2 rfl
       (repeat refine WC.seq ?_)
       refine WC.block ?_
       ((repeat refine WC.seq ?_); refine WC.draw (plans := pl58_18) (by kernel_rfl) ?_; simp only [pl58_18, List.mem_cons, List.not_mem_nil, or_false, forall_eq_or_imp, forall_eq])
       (try simp (maxSteps := 2000000) only [wk, wl, wx, reduceLT, reduceEqDiff, Nat.reduceBEq, reduceIte, wd, Chk, and_true, true_and, t1, t7, t8, fa60_5, fa136_1, Nat.zero_add, B6.at ty58 rfl, k1, u1, a0, u0])
       (repeat refine WC.seq ?_)
       cases hb : (x.slots[j].addr == x.slots[i].addr) with
       | true =>
        refine WC.cond (b := true) (by (try simp only [wk, wl, wx, reduceLT, reduceEqDiff, Nat.reduceBEq, reduceIte, hb]); (try simp); (try omega)) ?_
        ((repeat refine WC.seq ?_); refine WC.run ?_)
        (try simp only [wk, wl, wx, reduceLT, reduceEqDiff, Nat.reduceBEq, reduceIte])
        refine WC.ret ?_
        (try simp only [wk, wl, wx, reduceLT, reduceEqDiff, Nat.reduceBEq, reduceIte])
        refine ⟨?_, K6⟩
        have hc : ((x.slots.take i).map (·.addr)).contains x.slots[i].addr = true := by
         rw [List.contains_iff_mem, List.mem_map]
         exact ⟨x.slots[j], List.mem_take_iff_getElem.2 ⟨j, by omega, rfl⟩, eq_of_beq hb⟩
        rw [rrightB, hH, hX, allB_false hlt (by simp only [rslotP, hI, hP, hc]; rfl), Bool.false_and, Bool.and_false, Bool.and_false]
       | false =>
        refine WC.cond (b := false) (by (try simp only [wk, wl, wx, reduceLT, reduceEqDiff, Nat.reduceBEq, reduceIte, hb]); (try simp); (try omega)) (WC.skip ?_)
        (try simp only [wk, wl, wx, reduceLT, reduceEqDiff, Nat.reduceBEq, reduceIte])
        ((repeat refine WC.seq ?_); refine WC.run ?_)
        (try simp only [wk, wl, wx, reduceLT, reduceEqDiff, Nat.reduceBEq, reduceIte, t8, bin_add])
        refine ⟨_, ?_, _, j + 1, rfl, by trivial, rfl, by omega, ?_⟩
        ·omega
        (try simp only [wk, wl, wx, reduceLT, reduceEqDiff, Nat.reduceBEq, reduceIte, t1, t3, t6, t7, t131, t132, t133])
        refine ⟨trivial, trivial, trivial, trivial, ?_, trivial, trivial, trivial, ?_⟩
        ·rw [wrap64 (by omega) (by omega)]; rfl
        ·rw [map_snoc (fun e : SlotD => e.addr) hjl, List.contains_eq_any_beq, List.any_append, ← List.contains_eq_any_beq, hno]
         have hb' : (x.slots[i].addr == x.slots[j].addr) = false := by rw [← hb]; exact BEq.comm
         simp only [List.any_cons, List.any_nil, Bool.or_false, Bool.false_or, hb']
      ·refine WC.cond (b := false) (by (try simp only [wk, wl, wx, reduceLT, reduceEqDiff, Nat.reduceBEq, reduceIte]); (try simp); (try omega)) (WC.exit ?_)
       have : j = i := by omega
       subst this
       (try simp only [wk, wl, wx, reduceLT, reduceEqDiff, Nat.reduceBEq, reduceIte])
       (try rw [show Nat.beq 4 4 = true from rfl, cond_true])
       ((repeat refine WC.seq ?_); refine WC.run ?_)
       (try simp only [wk, wl, wx, reduceLT, reduceEqDiff, Nat.reduceBEq, reduceIte, t133, bin_add])
       refine ⟨_, ?_, _, j + 1, rfl, fk.trans (F6.sub fun x hx => by omega), rfl, by omega, ?_⟩
       ·omega
       (try simp only [wk, wl, wx, reduceLT, reduceEqDiff, Nat.reduceBEq, reduceIte, t1, t3, t131, t132])
       refine ⟨trivial, trivial, trivial, trivial, ?_, below_succ hal (by rw [rslotP, hI, hP, hno]; rfl)⟩
       rw [wrap64 (by omega) (by omega)]; rfl
     all_goals (try simp only [wk, wl, wx, reduceLT, reduceEqDiff, Nat.reduceBEq, reduceIte, t1, t3, t6, t7, t131, t132, t133])
     all_goals (first | trivial | rfl | simp)
    ·refine WC.cond (b := false) (by (try simp only [wk, wl, wx, reduceLT, reduceEqDiff, Nat.reduceBEq, reduceIte]); (try simp); (try omega)) (WC.exit ?_)
     have : i = x.slots.length := by omega
     subst this
     have hS := allB_true hal
     (try simp only [wk, wl, wx, reduceLT, reduceEqDiff, Nat.reduceBEq, reduceIte])
     have Kk : Kept h hk := Kq.trans (fk.sub fun x hx => by omega)
     ((repeat refine WC.seq ?_); refine WC.run ?_)
     (try simp only [wk, wl, wx, reduceLT, reduceEqDiff, Nat.reduceBEq, reduceIte, t1, fa60_6, Nat.zero_add, Bk.at ty30 rfl, Sl.lenB imk.needs ty30 rfl])
     (repeat refine WC.seq ?_)
     refine WC.block ?_
     refine WC.while (fun m fr hn => ∃ ts i, fr = ⟨ts, 231, [], 58, none⟩ ∧ hn = hk ∧ m = x.needs.length - i ∧ i ≤ x.needs.length ∧ ts.get 1 = some (.ptr h.next 0) ∧ ts.get 207 = some c.needs ∧ ts.get 208 = some (.int .i64 x.needs.length) ∧ ts.get 209 = some (.int .i64 i) ∧ ∀ j, j < i → needP x.needs j = true) ?_ ⟨_, 0, rfl, rfl, rfl, by omega, ?_, ?_, ?_, ?_, fun j hj => absurd hj (Nat.not_lt_zero _)⟩
     ·rintro m fr hn ⟨ts, i, rfl, rfl, rfl, hi, t1, t207, t208, t209, hal⟩
      ((repeat refine WC.seq ?_); refine WC.run ?_)
      (try simp only [wk, wl, wx, reduceLT, reduceEqDiff, Nat.reduceBEq, reduceIte, t208, t209])
      (repeat refine WC.seq ?_)
      by_cases hlt : i < x.needs.length
      ·refine WC.cond (b := true) (by (try simp only [wk, wl, wx, reduceLT, reduceEqDiff, Nat.reduceBEq, reduceIte]); (try simp); (try omega)) (WC.skip ?_)
       (try simp only [wk, wl, wx, reduceLT, reduceEqDiff, Nat.reduceBEq, reduceIte])
       obtain ⟨p, p1, p2⟩ := imk.needs.at ty30 rfl ty9 rfl rfl hlt
       have p2 := p2 hn fun _ _ _ _ _ => rfl
       have hg : x.needs[i]? = some x.needs[i] := List.getElem?_eq_getElem hlt
       (repeat refine WC.seq ?_)
       refine WC.block ?_
       ((repeat refine WC.seq ?_); refine WC.run ?_)
       (try simp only [wk, wl, wx, reduceLT, reduceEqDiff, Nat.reduceBEq, reduceIte, t207, t209, p1, p2])
       ((repeat refine WC.seq ?_); refine WC.run ?_)
       (try simp only [wk, wl, wx, reduceLT, reduceEqDiff, Nat.reduceBEq, reduceIte])
       refine rnamed_ok.mono fun v h2 ⟨e2, e2'⟩ => ?_
       subst e2 e2'
       (try simp only [wk, wl, wx, reduceLT, reduceEqDiff, Nat.reduceBEq, reduceIte])
       (repeat refine WC.seq ?_)
       rcases Bool.eq_false_or_eq_true (nameE x.needs[i] != 0) with q1 | q1
       ·refine WC.cond (b := true) (by (try simp only [wk, wl, wx, reduceLT, reduceEqDiff, Nat.reduceBEq, reduceIte, q1]); (try simp); (try omega)) ?_
        ((repeat refine WC.seq ?_); refine WC.run ?_)
        (try simp only [wk, wl, wx, reduceLT, reduceEqDiff, Nat.reduceBEq, reduceIte])
        refine WC.ret ?_
        (try simp only [wk, wl, wx, reduceLT, reduceEqDiff, Nat.reduceBEq, reduceIte])
        refine ⟨?_, Kk⟩
        have q1e : ¬ nameE x.needs[i] = 0 := by simpa using q1
        rw [rrightB, hH, hX, hS, allB_false hlt (by simp only [needP, hg]; rw [decide_eq_false q1e]; rfl)]; rfl
       refine WC.cond (b := false) (by (try simp only [wk, wl, wx, reduceLT, reduceEqDiff, Nat.reduceBEq, reduceIte, q1]); (try simp); (try omega)) (WC.skip ?_)
       (try simp only [wk, wl, wx, reduceLT, reduceEqDiff, Nat.reduceBEq, reduceIte])
       have q1e : nameE x.needs[i] = 0 := by simpa using q1
       obtain ⟨s', hs1, hs2, _⟩ := Sl.sub imk.needs ty30 rfl (sizeOf_of ty9) (lo := none) (hi := some i) (l := 0) (r := i) rfl rfl (Nat.zero_le _) (by omega)
       have hll : (x.needs.take i).length = i := by simp; omega
       have hs2 : Ss g h2 s' (x.needs.take i) := by
        unfold Ss Vs
        rw [hll, List.map_take]
        simpa using hs2
       have hs1 : sliceV (E g) 30 c.needs none (some (.int .i64 i)) none = some s' := hs1
       ((repeat refine WC.seq ?_); refine WC.run ?_)
       (try simp only [wk, wl, wx, reduceLT, reduceEqDiff, Nat.reduceBEq, reduceIte, t1, fa60_6, Nat.zero_add, Bk.at ty30 rfl, hs1, Sl.lenB hs2 ty30 rfl, hll])
       (repeat refine WC.seq ?_)
       refine WC.block ?_
       refine WC.while (fun m fr hj => ∃ ts j, fr = ⟨ts, 231, [], 58, none⟩ ∧ hj = h2 ∧ m = i - j ∧ j ≤ i ∧ ts.get 1 = some (.ptr h.next 0) ∧ ts.get 10 = some (.str x.needs[i]) ∧ ts.get 207 = some c.needs ∧ ts.get 208 = some (.int .i64 x.needs.length) ∧ ts.get 209 = some (.int .i64 i) ∧ ts.get 220 = some s' ∧ ts.get 221 = some (.int .i64 i) ∧ ts.get 222 = some (.int .i64 j) ∧ ((x.needs.take i).take j).contains x.needs[i] = false) ?_ ⟨_, 0, rfl, rfl, rfl, by omega, ?_, ?_, ?_, ?_, ?_, ?_, ?_, ?_, rfl⟩
       ·rintro m fr hj ⟨ts, j, rfl, rfl, rfl, hji, t1, t10, t207, t208, t209, t220, t221, t222, hno⟩
        ((repeat refine WC.seq ?_); refine WC.run ?_)
        (try simp only [wk, wl, wx, reduceLT, reduceEqDiff, Nat.reduceBEq, reduceIte, t221, t222])
        (repeat refine WC.seq ?_)
        by_cases hjt : j < i
        ·refine WC.cond (b := true) (by (try simp only [wk, wl, wx, reduceLT, reduceEqDiff, Nat.reduceBEq, reduceIte]); (try simp); (try omega)) (WC.skip ?_)
         (try simp only [wk, wl, wx, reduceLT, reduceEqDiff, Nat.reduceBEq, reduceIte])
         have hjl : j < (x.needs.take i).length := by omega
         obtain ⟨p, p1, p2⟩ := hs2.at ty30 rfl ty9 rfl rfl hjl
         have p2 := p2 hj fun _ _ _ _ _ => rfl
         generalize hy : (x.needs.take i)[j] = y at *
         (repeat refine WC.seq ?_)
         refine WC.block ?_
         ((repeat refine WC.seq ?_); refine WC.run ?_)
         (try simp only [wk, wl, wx, reduceLT, reduceEqDiff, Nat.reduceBEq, reduceIte, t220, t222, p1, p2])
         ((repeat refine WC.seq ?_); refine WC.run ?_)
         (try simp only [wk, wl, wx, reduceLT, reduceEqDiff, Nat.reduceBEq, reduceIte, t10, bin_seql])
         (repeat refine WC.seq ?_)
         cases hb : (y == x.needs[i]) with
         | true =>
          refine WC.cond (b := true) (by (try simp only [wk, wl, wx, reduceLT, reduceEqDiff, Nat.reduceBEq, reduceIte, hb]); (try simp); (try omega)) ?_
          ((repeat refine WC.seq ?_); refine WC.run ?_)
          (try simp only [wk, wl, wx, reduceLT, reduceEqDiff, Nat.reduceBEq, reduceIte])
          refine WC.ret ?_
          (try simp only [wk, wl, wx, reduceLT, reduceEqDiff, Nat.reduceBEq, reduceIte])
          refine ⟨?_, Kk⟩
          have ht : (x.needs.take i).contains x.needs[i] = true := by
           rw [List.contains_iff_mem, ← eq_of_beq hb, ← hy]
           exact List.getElem_mem hjl
          rw [rrightB, hH, hX, hS, allB_false hlt (by simp only [needP, hg, ht]; simp)]; rfl
         | false =>
          refine WC.cond (b := false) (by (try simp only [wk, wl, wx, reduceLT, reduceEqDiff, Nat.reduceBEq, reduceIte, hb]); (try simp); (try omega)) (WC.skip ?_)
          (try simp only [wk, wl, wx, reduceLT, reduceEqDiff, Nat.reduceBEq, reduceIte])
          ((repeat refine WC.seq ?_); refine WC.run ?_)
          (try simp only [wk, wl, wx, reduceLT, reduceEqDiff, Nat.reduceBEq, reduceIte, t222, bin_add])
          refine ⟨_, ?_, _, j + 1, rfl, by trivial, rfl, by omega, ?_⟩
          ·omega
          (try simp only [wk, wl, wx, reduceLT, reduceEqDiff, Nat.reduceBEq, reduceIte, t1, t10, t207, t208, t209, t220, t221])
          refine ⟨trivial, trivial, trivial, trivial, trivial, trivial, trivial, ?_, ?_⟩
          ·rw [wrap64 (by omega) (by omega)]; rfl
          ·rw [List.take_succ_eq_append_getElem hjl, List.contains_eq_any_beq, List.any_append, ← List.contains_eq_any_beq, hno, hy]
           have hb' : (x.needs[i] == y) = false := by rw [← hb]; exact BEq.comm
           simp only [List.any_cons, List.any_nil, Bool.or_false, Bool.false_or, hb']
        ·refine WC.cond (b := false) (by (try simp only [wk, wl, wx, reduceLT, reduceEqDiff, Nat.reduceBEq, reduceIte]); (try simp); (try omega)) (WC.exit ?_)
         have : j = i := by omega
         subst this
         have hno : (x.needs.take j).contains x.needs[j] = false := by rwa [List.take_of_length_le (by omega)] at hno
         (try simp only [wk, wl, wx, reduceLT, reduceEqDiff, Nat.reduceBEq, reduceIte])
         (try rw [show Nat.beq 8 8 = true from rfl, cond_true])
         ((repeat refine WC.seq ?_); refine WC.run ?_)
         (try simp only [wk, wl, wx, reduceLT, reduceEqDiff, Nat.reduceBEq, reduceIte, t209, bin_add])
         refine ⟨_, ?_, _, j + 1, rfl, by trivial, rfl, by omega, ?_⟩
         ·omega
         (try simp only [wk, wl, wx, reduceLT, reduceEqDiff, Nat.reduceBEq, reduceIte, t1, t207, t208])
         refine ⟨trivial, trivial, trivial, ?_, below_succ hal (by simp only [needP, hg, hno]; rw [decide_eq_true q1e]; rfl)⟩
         rw [wrap64 (by omega) (by omega)]; rfl
       all_goals (try simp only [wk, wl, wx, reduceLT, reduceEqDiff, Nat.reduceBEq, reduceIte, t1, t207, t208, t209])
       all_goals (first | trivial | rfl | simp)
      ·refine WC.cond (b := false) (by (try simp only [wk, wl, wx, reduceLT, reduceEqDiff, Nat.reduceBEq, reduceIte]); (try simp); (try omega)) (WC.exit ?_)
       have : i = x.needs.length := by omega
       subst this
       have hN := allB_true hal
       (try simp only [wk, wl, wx, reduceLT, reduceEqDiff, Nat.reduceBEq, reduceIte])
       ((repeat refine WC.seq ?_); refine WC.run ?_)
       (try simp only [wk, wl, wx, reduceLT, reduceEqDiff, Nat.reduceBEq, reduceIte])
       refine WC.ret ?_
       (try simp only [wk, wl, wx, reduceLT, reduceEqDiff, Nat.reduceBEq, reduceIte])
       exact ⟨by rw [rrightB, hH, hX, hS, hN]; rfl, Kk⟩
     all_goals (try simp only [wk, wl, wx, reduceLT, reduceEqDiff, Nat.reduceBEq, reduceIte, t1])
     all_goals (first | trivial | rfl | simp)
   all_goals (try simp only [wk, wl, wx, reduceLT, reduceEqDiff, Nat.reduceBEq, reduceIte, t1, t3])
   all_goals (first | trivial | rfl | simp)
 all_goals (try simp only [wk, wl, wx, reduceLT, reduceEqDiff, Nat.reduceBEq, reduceIte, t1, t3])
 all_goals (first | trivial | rfl | simp)
end Go.Proofs.OP
