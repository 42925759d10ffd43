/- Walks: symbol. -/
import Derived.Test.YtloblhhnlaaajaaDoorX15
import Derived.Test.YtloblhhnlaaajaaDoorX17
set_option linter.unusedVariables false
set_option linter.unusedSimpArgs false
set_option linter.defProp false
set_option linter.unusedSimpArgs false
namespace Go.Proofs.OP
open Go Go.Ev
open Go.Proofs
open Nat (reduceLT reduceEqDiff)
variable {g : T (List V)}

def symE (o : ObjD) (x : SymD) (seen : Bool) : Int :=
 if nameE x.name ≠ 0 then nameE x.name
 else if seen = true then 38
 else if x.sec < 0 ∨ 2 < x.sec ∨ x.off < 0 ∨ secLen o x.sec < x.off then 34
 else if x.glob = false ∧ (x.sec = 0 ∨ x.weak = true) then 14
 else 0
theorem lookup168 {h : H} {b : Nat} {k : List UInt8} {L : List (List UInt8 × V)} (m : Mp h b L) : lookupV (E g) h 168 (.map b) (.str k) true = some (.tuple [(lk k L).getD (.int .i64 0), .bool (lk k L).isSome]) :=
 lookup2 m ty168 rfl ty9 rfl ty3
set_option maxRecDepth 100000 in
theorem symbol_ok {h : H} {b mb : Nat} {c : Oc} {o : ObjD} {x : SymD} {L : List (List UInt8 × V)} (hb : Has h b (c.cells o)) (hbn : b < h.next) (ob : Ob g h (· < h.next) c o) (m : Mp h mb L) (hmb : mb < h.next) :
  WF (E g) 81 [.ptr b 0, .agg (symV x), .map mb] h fun v h' => v = i64 (symE o x (lk x.name L).isSome) ∧ Kept h h' := by
 refine WF.enter fn81 rfl ?_
 ((repeat refine WC.seq ?_); refine WC.run ?_)
 (try simp only [wk, wl, wx, reduceLT, reduceEqDiff, Nat.reduceBEq, reduceIte])
 refine wop_box (v := .agg (symV x)) (by (try simp only [wk, wl, wx, reduceLT, reduceEqDiff, Nat.reduceBEq, reduceIte])) ?_
 intro h1 b1 n1 f1
 (try simp only [wk, wl, wx, reduceLT, reduceEqDiff, Nat.reduceBEq, reduceIte])
 have b1 : Has h1 h.next [.str x.name, i64 x.sec, i64 x.off, .bool x.glob, .bool x.weak] := b1
 have hb1 : Has h1 b (c.cells o) := hb.fix f1 hbn
 have ob1 := ob.fix f1 (fun _ h => h)
 have m1 := m.fix f1 hmb
 have l1 : loadP (E g) h1 9 (.ptr h.next 0) = some (.str x.name) := b1.at ty9 rfl 0
 have l2 : loadP (E g) h1 3 (.ptr h.next 1) = some (.int .i64 x.sec) := b1.at ty3 rfl 1
 have l3 : loadP (E g) h1 2 (.ptr h.next 2) = some (.int .i64 x.off) := b1.at ty2 rfl 2
 have l4 : loadP (E g) h1 4 (.ptr h.next 3) = some (.bool x.glob) := b1.at ty4 rfl 3
 have l5 : loadP (E g) h1 4 (.ptr h.next 4) = some (.bool x.weak) := b1.at ty4 rfl 4
 ((repeat refine WC.seq ?_); refine WC.run ?_)
 (try simp only [wk, wl, wx, reduceLT, reduceEqDiff, Nat.reduceBEq, reduceIte, fa95_0, Nat.zero_add, l1])
 refine named_ok.mono fun v h2 ⟨e2, e2'⟩ => ?_
 subst e2 e2'
 (try simp only [wk, wl, wx, reduceLT, reduceEqDiff, Nat.reduceBEq, reduceIte])
 ((repeat refine WC.seq ?_); refine WC.run ?_)
 (try simp only [wk, wl, wx, reduceLT, reduceEqDiff, Nat.reduceBEq, reduceIte])
 (repeat refine WC.seq ?_)
 rcases (Decidable.em (nameE x.name = 0)).symm with hn | hn
 ·refine WC.cond (b := true) (by (try simp only [wk, wl, wx, reduceLT, reduceEqDiff, Nat.reduceBEq, reduceIte, hn]); (try simp); (try omega)) ?_
  ((repeat refine WC.seq ?_); refine WC.run ?_)
  (try simp only [wk, wl, wx, reduceLT, reduceEqDiff, Nat.reduceBEq, reduceIte])
  refine WC.ret ?_
  (try simp only [wk, wl, wx, reduceLT, reduceEqDiff, Nat.reduceBEq, reduceIte])
  exact ⟨by rw [symE, if_pos hn]; rfl, f1⟩
 refine WC.cond (b := false) (by (try simp only [wk, wl, wx, reduceLT, reduceEqDiff, Nat.reduceBEq, reduceIte, hn]); (try simp); (try omega)) (WC.skip ?_)
 (try simp only [wk, wl, wx, reduceLT, reduceEqDiff, Nat.reduceBEq, reduceIte])
 ((repeat refine WC.seq ?_); refine WC.run ?_)
 (try simp only [wk, wl, wx, reduceLT, reduceEqDiff, Nat.reduceBEq, reduceIte, fa95_0, Nat.zero_add, l1, w_lookup, lookup168 m1])
 (repeat refine WC.seq ?_)
 refine WC.block ?_
 ((repeat refine WC.seq ?_); refine WC.run ?_)
 (try simp only [wk, wl, wx, reduceLT, reduceEqDiff, Nat.reduceBEq, reduceIte])
 (repeat refine WC.seq ?_)
 cases hs : (lk x.name L).isSome with
 | true =>
  refine WC.cond (b := true) (by (try simp only [wk, wl, wx, reduceLT, reduceEqDiff, Nat.reduceBEq, reduceIte, hs]); (try simp); (try omega)) ?_
  ((repeat refine WC.seq ?_); refine WC.run ?_)
  (try simp only [wk, wl, wx, reduceLT, reduceEqDiff, Nat.reduceBEq, reduceIte])
  refine WC.ret ?_
  (try simp only [wk, wl, wx, reduceLT, reduceEqDiff, Nat.reduceBEq, reduceIte])
  exact ⟨by rw [symE, if_neg (by simp [hn]), if_pos rfl]; rfl, f1⟩
 | false =>
  refine WC.cond (b := false) (by (try simp only [wk, wl, wx, reduceLT, reduceEqDiff, Nat.reduceBEq, reduceIte, hs]); (try simp); (try omega)) ?_
  have k1 : WF (E g) 86 [.ptr b 0, .int .i64 x.sec] h2 fun v h' => v = i64 (secLen o x.sec) ∧ h' = h2 := size_ok hb1 ob1
  rcases Decidable.em (x.sec < 0) with r1 | r1
  ·((repeat refine WC.seq ?_); refine WC.draw (plans := pl81_7) (by kernel_rfl) ?_; simp only [pl81_7, List.mem_cons, List.not_mem_nil, or_false, forall_eq_or_imp, forall_eq])
   (try simp (maxSteps := 2000000) only [wk, wl, wx, reduceLT, reduceEqDiff, Nat.reduceBEq, reduceIte, wd, Chk, and_true, true_and, fa95_1, fa95_2, Nat.zero_add, l2, l3, decide_eq_true r1])
   try refine k1.mono fun v h3 ⟨e3, e3'⟩ => ?_
   try subst e3 e3'
   try (try simp (maxSteps := 2000000) only [wk, wl, wx, reduceLT, reduceEqDiff, Nat.reduceBEq, reduceIte, wd, Chk, and_true, true_and, fa95_1, fa95_2, Nat.zero_add, l2, l3, i64, decide_eq_true r1])
   (repeat refine WC.seq ?_)
   refine WC.cond (b := true) (by (try simp only [wk, wl, wx, reduceLT, reduceEqDiff, Nat.reduceBEq, reduceIte]); (try simp); (try omega)) ?_
   ((repeat refine WC.seq ?_); refine WC.run ?_)
   (try simp only [wk, wl, wx, reduceLT, reduceEqDiff, Nat.reduceBEq, reduceIte])
   refine WC.ret ?_
   (try simp only [wk, wl, wx, reduceLT, reduceEqDiff, Nat.reduceBEq, reduceIte])
   refine ⟨?_, f1⟩
   rw [symE, if_neg (by simp [hn]), if_neg (by simp), if_pos (by simp [r1])]
  rcases Decidable.em ((2 : Int) < x.sec) with r2 | r2
  ·((repeat refine WC.seq ?_); refine WC.draw (plans := pl81_7) (by kernel_rfl) ?_; simp only [pl81_7, List.mem_cons, List.not_mem_nil, or_false, forall_eq_or_imp, forall_eq])
   (try simp (maxSteps := 2000000) only [wk, wl, wx, reduceLT, reduceEqDiff, Nat.reduceBEq, reduceIte, wd, Chk, and_true, true_and, fa95_1, fa95_2, Nat.zero_add, l2, l3, decide_eq_false r1, decide_eq_true r2])
   try refine k1.mono fun v h3 ⟨e3, e3'⟩ => ?_
   try subst e3 e3'
   try (try simp (maxSteps := 2000000) only [wk, wl, wx, reduceLT, reduceEqDiff, Nat.reduceBEq, reduceIte, wd, Chk, and_true, true_and, fa95_1, fa95_2, Nat.zero_add, l2, l3, i64, decide_eq_false r1, decide_eq_true r2])
   (repeat refine WC.seq ?_)
   refine WC.cond (b := true) (by (try simp only [wk, wl, wx, reduceLT, reduceEqDiff, Nat.reduceBEq, reduceIte]); (try simp); (try omega)) ?_
   ((repeat refine WC.seq ?_); refine WC.run ?_)
   (try simp only [wk, wl, wx, reduceLT, reduceEqDiff, Nat.reduceBEq, reduceIte])
   refine WC.ret ?_
   (try simp only [wk, wl, wx, reduceLT, reduceEqDiff, Nat.reduceBEq, reduceIte])
   refine ⟨?_, f1⟩
   rw [symE, if_neg (by simp [hn]), if_neg (by simp), if_pos (by simp [r1, r2])]
  rcases Decidable.em (x.off < 0) with r3 | r3
  ·((repeat refine WC.seq ?_); refine WC.draw (plans := pl81_7) (by kernel_rfl) ?_; simp only [pl81_7, List.mem_cons, List.not_mem_nil, or_false, forall_eq_or_imp, forall_eq])
   (try simp (maxSteps := 2000000) only [wk, wl, wx, reduceLT, reduceEqDiff, Nat.reduceBEq, reduceIte, wd, Chk, and_true, true_and, fa95_1, fa95_2, Nat.zero_add, l2, l3, decide_eq_false r1, decide_eq_false r2, decide_eq_true r3])
   try refine k1.mono fun v h3 ⟨e3, e3'⟩ => ?_
   try subst e3 e3'
   try (try simp (maxSteps := 2000000) only [wk, wl, wx, reduceLT, reduceEqDiff, Nat.reduceBEq, reduceIte, wd, Chk, and_true, true_and, fa95_1, fa95_2, Nat.zero_add, l2, l3, i64, decide_eq_false r1, decide_eq_false r2, decide_eq_true r3])
   (repeat refine WC.seq ?_)
   refine WC.cond (b := true) (by (try simp only [wk, wl, wx, reduceLT, reduceEqDiff, Nat.reduceBEq, reduceIte]); (try simp); (try omega)) ?_
   ((repeat refine WC.seq ?_); refine WC.run ?_)
   (try simp only [wk, wl, wx, reduceLT, reduceEqDiff, Nat.reduceBEq, reduceIte])
   refine WC.ret ?_
   (try simp only [wk, wl, wx, reduceLT, reduceEqDiff, Nat.reduceBEq, reduceIte])
   refine ⟨?_, f1⟩
   rw [symE, if_neg (by simp [hn]), if_neg (by simp), if_pos (by simp [r1, r2, r3])]
  rcases Decidable.em (secLen o x.sec < x.off) with r4 | r4
  ·((repeat refine WC.seq ?_); refine WC.draw (plans := pl81_7) (by kernel_rfl) ?_; simp only [pl81_7, List.mem_cons, List.not_mem_nil, or_false, forall_eq_or_imp, forall_eq])
   (try simp (maxSteps := 2000000) only [wk, wl, wx, reduceLT, reduceEqDiff, Nat.reduceBEq, reduceIte, wd, Chk, and_true, true_and, fa95_1, fa95_2, Nat.zero_add, l2, l3, decide_eq_false r1, decide_eq_false r2, decide_eq_false r3, decide_eq_true r4])
   try refine k1.mono fun v h3 ⟨e3, e3'⟩ => ?_
   try subst e3 e3'
   try (try simp (maxSteps := 2000000) only [wk, wl, wx, reduceLT, reduceEqDiff, Nat.reduceBEq, reduceIte, wd, Chk, and_true, true_and, fa95_1, fa95_2, Nat.zero_add, l2, l3, i64, decide_eq_false r1, decide_eq_false r2, decide_eq_false r3, decide_eq_true r4])
   (repeat refine WC.seq ?_)
   refine WC.cond (b := true) (by (try simp only [wk, wl, wx, reduceLT, reduceEqDiff, Nat.reduceBEq, reduceIte]); (try simp); (try omega)) ?_
   ((repeat refine WC.seq ?_); refine WC.run ?_)
   (try simp only [wk, wl, wx, reduceLT, reduceEqDiff, Nat.reduceBEq, reduceIte])
   refine WC.ret ?_
   (try simp only [wk, wl, wx, reduceLT, reduceEqDiff, Nat.reduceBEq, reduceIte])
   refine ⟨?_, f1⟩
   rw [symE, if_neg (by simp [hn]), if_neg (by simp), if_pos (by simp [r1, r2, r3, r4])]
  ((repeat refine WC.seq ?_); refine WC.draw (plans := pl81_7) (by kernel_rfl) ?_; simp only [pl81_7, List.mem_cons, List.not_mem_nil, or_false, forall_eq_or_imp, forall_eq])
  (try simp (maxSteps := 2000000) only [wk, wl, wx, reduceLT, reduceEqDiff, Nat.reduceBEq, reduceIte, wd, Chk, and_true, true_and, fa95_1, fa95_2, Nat.zero_add, l2, l3, decide_eq_false r1, decide_eq_false r2, decide_eq_false r3, decide_eq_false r4])
  refine k1.mono fun v h3 ⟨e3, e3'⟩ => ?_
  subst e3 e3'
  (try simp (maxSteps := 2000000) only [wk, wl, wx, reduceLT, reduceEqDiff, Nat.reduceBEq, reduceIte, wd, Chk, and_true, true_and, fa95_1, fa95_2, Nat.zero_add, l2, l3, i64, decide_eq_false r1, decide_eq_false r2, decide_eq_false r3, decide_eq_false r4])
  (repeat refine WC.seq ?_)
  refine WC.cond (b := false) (by (try simp only [wk, wl, wx, reduceLT, reduceEqDiff, Nat.reduceBEq, reduceIte, decide_eq_false r1, decide_eq_false r2, decide_eq_false r3, decide_eq_false r4]); (try simp); (try omega)) ?_
  have hS : symE o x false = if x.glob = false ∧ (x.sec = 0 ∨ x.weak = true) then 14 else 0 := by
   rw [symE, if_neg (by simp [hn]), if_neg (by simp), if_neg (by simp [r1, r2, r3, r4])]
  rw [hS]
  have hz : ∀ n : Int, (V.bool (n == 0)) = .bool (decide (n = 0)) := fun n => by congr 1
  rcases Bool.eq_false_or_eq_true (x.glob) with q1 | q1
  ·((repeat refine WC.seq ?_); refine WC.run ?_)
   (try simp only [wk, wl, wx, reduceLT, reduceEqDiff, Nat.reduceBEq, reduceIte, fa95_1, fa95_3, fa95_4, Nat.zero_add, l2, l4, l5, q1, un_not, Bool.not_true])
   (repeat refine WC.seq ?_)
   refine WC.cond (b := false) (by (try simp only [wk, wl, wx, reduceLT, reduceEqDiff, Nat.reduceBEq, reduceIte]); (try simp); (try omega)) (WC.skip ?_)
   (try simp only [wk, wl, wx, reduceLT, reduceEqDiff, Nat.reduceBEq, reduceIte])
   ((repeat refine WC.seq ?_); refine WC.run ?_)
   (try simp only [wk, wl, wx, reduceLT, reduceEqDiff, Nat.reduceBEq, reduceIte])
   refine WC.ret ?_
   (try simp only [wk, wl, wx, reduceLT, reduceEqDiff, Nat.reduceBEq, reduceIte])
   refine ⟨?_, f1⟩
   rw [if_neg (by simp [q1])]
  rcases Decidable.em (x.sec = 0) with q2 | q2
  ·((repeat refine WC.seq ?_); refine WC.run ?_)
   (try simp only [wk, wl, wx, reduceLT, reduceEqDiff, Nat.reduceBEq, reduceIte, fa95_1, fa95_3, fa95_4, Nat.zero_add, l2, l4, l5, q1, un_not, Bool.not_false, hz, decide_eq_true q2])
   (repeat refine WC.seq ?_)
   refine WC.cond (b := true) (by (try simp only [wk, wl, wx, reduceLT, reduceEqDiff, Nat.reduceBEq, reduceIte, hz, decide_eq_true q2]); (try simp); (try omega)) ?_
   ((repeat refine WC.seq ?_); refine WC.run ?_)
   (try simp only [wk, wl, wx, reduceLT, reduceEqDiff, Nat.reduceBEq, reduceIte])
   refine WC.ret ?_
   (try simp only [wk, wl, wx, reduceLT, reduceEqDiff, Nat.reduceBEq, reduceIte])
   refine ⟨?_, f1⟩
   rw [if_pos (by simp [q1, q2])]
  rcases Bool.eq_false_or_eq_true (x.weak) with q3 | q3
  ·((repeat refine WC.seq ?_); refine WC.run ?_)
   (try simp only [wk, wl, wx, reduceLT, reduceEqDiff, Nat.reduceBEq, reduceIte, fa95_1, fa95_3, fa95_4, Nat.zero_add, l2, l4, l5, q1, un_not, Bool.not_false, hz, decide_eq_false q2, q3])
   (repeat refine WC.seq ?_)
   refine WC.cond (b := true) (by (try simp only [wk, wl, wx, reduceLT, reduceEqDiff, Nat.reduceBEq, reduceIte, hz, decide_eq_false q2, q3]); (try simp); (try omega)) ?_
   ((repeat refine WC.seq ?_); refine WC.run ?_)
   (try simp only [wk, wl, wx, reduceLT, reduceEqDiff, Nat.reduceBEq, reduceIte])
   refine WC.ret ?_
   (try simp only [wk, wl, wx, reduceLT, reduceEqDiff, Nat.reduceBEq, reduceIte])
   refine ⟨?_, f1⟩
   rw [if_pos (by simp [q1, q2, q3])]
  ((repeat refine WC.seq ?_); refine WC.run ?_)
  (try simp only [wk, wl, wx, reduceLT, reduceEqDiff, Nat.reduceBEq, reduceIte, fa95_1, fa95_3, fa95_4, Nat.zero_add, l2, l4, l5, q1, un_not, Bool.not_false, hz, decide_eq_false q2, q3])
  (repeat refine WC.seq ?_)
  refine WC.cond (b := false) (by (try simp only [wk, wl, wx, reduceLT, reduceEqDiff, Nat.reduceBEq, reduceIte, hz, decide_eq_false q2, q3]); (try simp); (try omega)) (WC.skip ?_)
  (try simp only [wk, wl, wx, reduceLT, reduceEqDiff, Nat.reduceBEq, reduceIte])
  ((repeat refine WC.seq ?_); refine WC.run ?_)
  (try simp only [wk, wl, wx, reduceLT, reduceEqDiff, Nat.reduceBEq, reduceIte])
  refine WC.ret ?_
  (try simp only [wk, wl, wx, reduceLT, reduceEqDiff, Nat.reduceBEq, reduceIte])
  refine ⟨?_, f1⟩
  rw [if_neg (by simp [q1, q2, q3])]
end Go.Proofs.OP

set_option linter.unusedSimpArgs false
namespace Go.Proofs.OP
open Go Go.Ev
open Go.Proofs
open Nat (reduceLT reduceEqDiff)
variable {g : T (List V)}

theorem flat_take {α : Type} {f : α → List V} {sz : Nat} (hf : ∀ x, (f x).length = sz) : ∀ (L : List α) (i : Nat), (L.flatMap f).take (i * sz) = (L.take i).flatMap f
 | [], i => by simp
 | x :: r, 0 => by simp
 | x :: r, i + 1 => by
  rw [List.flatMap_cons, List.take_succ_cons, List.flatMap_cons, ← flat_take hf r i, List.take_append, hf, List.take_of_length_le (by rw [hf, Nat.succ_mul]; omega)]
  congr 2
  rw [Nat.succ_mul]; omega
theorem Rcs.upto {α : Type} {h : H} {sz : Nat} {f : α → List V} {s : V} {L : List α} (a : Rcs (E g) h sz f s L) (hf : ∀ x, (f x).length = sz) {t e : Nat} {i ei : TI} (ht : (E g).tys.get t = some i) (hd : i.desc = .slice e) (he : (E g).tys.get e = some ei) (hs : ei.size = sz) {n : Nat} (hn : n ≤ L.length) :
  ∃ s', sliceV (E g) t s none (some (.int .i64 n)) none = some s' ∧ Rcs (E g) h sz f s' (L.take n) ∧ (∀ K, In K s → In K s') := by
 obtain ⟨s', h1, h2, h3, _⟩ := Sl.sub a ht hd (by rw [sizeOf_of he, hs]) (lo := none) (hi := some n) (l := 0) (r := n) rfl rfl (Nat.zero_le _) hn
 refine ⟨s', h1, ?_, h3⟩
 have e : (L.take n).length = n := by simp; omega
 unfold Rcs
 rw [e, ← flat_take hf]
 simpa using h2

def clash (r x : RelD) : Bool := decide (x.sec = r.sec) && (decide (x.off < IntKind.i64.wrap (r.off + 4)) && decide (r.off < IntKind.i64.wrap (x.off + 4)))
theorem dec_beq (a b : Int) : (a == b) = decide (a = b) := by by_cases h : a = b <;> simp [h]
theorem clash_ok {h : H} {r x : RelD} {rb : Nat} (b : Has h rb (relV r)) (hrb : rb < h.next) : WF (E g) 110 [.agg (relV x), .ptr rb 0] h fun v h' => v = .bool (clash r x) ∧ Kept h h' := by
 refine WF.enter fn110 rfl ?_
 ((repeat refine WC.seq ?_); refine WC.run ?_)
 (try simp only [wk, wl, wx, reduceLT, reduceEqDiff, Nat.reduceBEq, reduceIte])
 refine wop_box (v := .agg (relV x)) (by (try simp only [wk, wl, wx, reduceLT, reduceEqDiff, Nat.reduceBEq, reduceIte])) ?_
 intro h1 b1 n1 f1
 (try simp only [wk, wl, wx, reduceLT, reduceEqDiff, Nat.reduceBEq, reduceIte])
 have c := b.fix f1 hrb
 have c0 : loadP (E g) h1 3 (.ptr rb 0) = some (.int .i64 r.sec) := c.at ty3 rfl 0
 have c1 : loadP (E g) h1 2 (.ptr rb 1) = some (.int .i64 r.off) := c.at ty2 rfl 1
 have d0 : loadP (E g) h1 3 (.ptr h.next 0) = some (.int .i64 x.sec) := b1.at ty3 rfl 0
 have d1 : loadP (E g) h1 2 (.ptr h.next 1) = some (.int .i64 x.off) := b1.at ty2 rfl 1
 rcases (Decidable.em (x.sec = r.sec)).symm with q1 | q1
 ·((repeat refine WC.seq ?_); refine WC.run ?_)
  (try simp only [wk, wl, wx, reduceLT, reduceEqDiff, Nat.reduceBEq, reduceIte, fa97_0, fa97_1, Nat.zero_add, c0, c1, d0, d1, bin_add, dec_beq, decide_eq_false q1])
  (repeat refine WC.seq ?_)
  refine WC.ret ?_
  (try simp only [wk, wl, wx, reduceLT, reduceEqDiff, Nat.reduceBEq, reduceIte])
  refine ⟨?_, f1⟩
  simp [clash, q1]
 rcases (Decidable.em (x.off < IntKind.i64.wrap (r.off + 4))).symm with q2 | q2
 ·((repeat refine WC.seq ?_); refine WC.run ?_)
  (try simp only [wk, wl, wx, reduceLT, reduceEqDiff, Nat.reduceBEq, reduceIte, fa97_0, fa97_1, Nat.zero_add, c0, c1, d0, d1, bin_add, dec_beq, decide_eq_true q1, decide_eq_false q2])
  (repeat refine WC.seq ?_)
  refine WC.ret ?_
  (try simp only [wk, wl, wx, reduceLT, reduceEqDiff, Nat.reduceBEq, reduceIte])
  refine ⟨?_, f1⟩
  simp [clash, q1, q2]
 ((repeat refine WC.seq ?_); refine WC.run ?_)
 (try simp only [wk, wl, wx, reduceLT, reduceEqDiff, Nat.reduceBEq, reduceIte, fa97_0, fa97_1, Nat.zero_add, c0, c1, d0, d1, bin_add, dec_beq, decide_eq_true q1, decide_eq_true q2])
 (repeat refine WC.seq ?_)
 refine WC.ret ?_
 (try simp only [wk, wl, wx, reduceLT, reduceEqDiff, Nat.reduceBEq, reduceIte])
 refine ⟨?_, f1⟩
 simp [clash, q1, q2]

theorem index_ok {h : H} {s : V} {L : List RelD} {r : RelD} {rb : Nat} (a : Re g h s L) (hs : In (· < h.next) s) (b : Has h rb (relV r)) (hrb : rb < h.next) (hM : L.length < 2 ^ 62) :
  WF (E g) 125 [s, .func 110 [] [.ptr rb 0]] h fun v h' => (∃ k : Int, v = .int .i64 k ∧ (decide (0 ≤ k)) = L.any (clash r)) ∧ Kept h h' := by
 refine WF.enter fn125 rfl ?_
 ((repeat refine WC.seq ?_); refine WC.run ?_)
 (try simp only [wk, wl, wx, reduceLT, reduceEqDiff, Nat.reduceBEq, reduceIte])
 ((repeat refine WC.seq ?_); refine WC.run ?_)
 (try simp only [wk, wl, wx, reduceLT, reduceEqDiff, Nat.reduceBEq, reduceIte, Sl.lenB a ty75 rfl])
 (repeat refine WC.seq ?_)
 refine WC.block ?_
 refine WC.while (fun m fr hh => ∃ ts i, fr = ⟨ts, 19, [], 125, none⟩ ∧ Kept h hh ∧ m = L.length - i ∧ i ≤ L.length ∧ ts.get 0 = some s ∧ ts.get 1 = some (.func 110 [] [.ptr rb 0]) ∧ ts.get 7 = some (.int .i64 L.length) ∧ ts.get 8 = some (.int .i64 i) ∧ (L.take i).any (clash r) = false) ?_ ⟨_, 0, rfl, Fix.refl _ _, rfl, by omega, ?_, ?_, ?_, ?_, ?_⟩
 ·rintro m fr hh ⟨ts, i, rfl, ff, rfl, hi, t0, t1, t7, t8, hno⟩
  ((repeat refine WC.seq ?_); refine WC.run ?_)
  (try simp only [wk, wl, wx, reduceLT, reduceEqDiff, Nat.reduceBEq, reduceIte, t7, t8])
  (repeat refine WC.seq ?_)
  by_cases hlt : i < L.length
  ·refine WC.cond (b := true) (by (try simp only [wk, wl, wx, reduceLT, reduceEqDiff, Nat.reduceBEq, reduceIte]); (try simp); (try omega)) (WC.skip ?_)
   (try simp only [wk, wl, wx, reduceLT, reduceEqDiff, Nat.reduceBEq, reduceIte])
   obtain ⟨p, p1, p2⟩ := a.at (fun _ => rfl) ty75 rfl ty97 rfl (by decide) rfl hlt
   have p2 := p2 hh fun b o m c e => ff.same b (hs _ _ _ _ e)
   have hmem := List.getElem_mem hlt
   (repeat refine WC.seq ?_)
   refine WC.block ?_
   ((repeat refine WC.seq ?_); refine WC.run ?_)
   (try simp only [wk, wl, wx, reduceLT, reduceEqDiff, Nat.reduceBEq, reduceIte, t8])
   ((repeat refine WC.seq ?_); refine WC.run ?_)
   (try simp only [wk, wl, wx, reduceLT, reduceEqDiff, Nat.reduceBEq, reduceIte, t0, t1, p1, p2])
   refine (clash_ok (b.fix ff hrb) (Nat.lt_of_lt_of_le hrb ff.next)).mono fun v h2 ⟨e2, f2⟩ => ?_
   subst e2
   (try simp only [wk, wl, wx, reduceLT, reduceEqDiff, Nat.reduceBEq, reduceIte])
   (repeat refine WC.seq ?_)
   cases hb : clash r L[i] with
   | true =>
    refine WC.cond (b := true) (by (try simp only [wk, wl, wx, reduceLT, reduceEqDiff, Nat.reduceBEq, reduceIte, hb]); (try simp); (try omega)) ?_
    ((repeat refine WC.seq ?_); refine WC.run ?_)
    (try simp only [wk, wl, wx, reduceLT, reduceEqDiff, Nat.reduceBEq, reduceIte])
    refine WC.ret ?_
    (try simp only [wk, wl, wx, reduceLT, reduceEqDiff, Nat.reduceBEq, reduceIte])
    refine ⟨⟨_, rfl, ?_⟩, ff.trans (f2.sub fun x hx => Nat.lt_of_lt_of_le hx ff.next)⟩
    have : L.any (clash r) = true := by
     rw [List.any_eq_true]
     exact ⟨_, hmem, hb⟩
    rw [this]; simp
   | false =>
    refine WC.cond (b := false) (by (try simp only [wk, wl, wx, reduceLT, reduceEqDiff, Nat.reduceBEq, reduceIte, hb]); (try simp); (try omega)) (WC.skip ?_)
    (try simp only [wk, wl, wx, reduceLT, reduceEqDiff, Nat.reduceBEq, reduceIte])
    ((repeat refine WC.seq ?_); refine WC.run ?_)
    (try simp only [wk, wl, wx, reduceLT, reduceEqDiff, Nat.reduceBEq, reduceIte, t8, bin_add])
    refine ⟨_, ?_, _, i + 1, rfl, ff.trans (f2.sub fun x hx => Nat.lt_of_lt_of_le hx ff.next), rfl, by omega, ?_⟩
    ·omega
    (try simp only [wk, wl, wx, reduceLT, reduceEqDiff, Nat.reduceBEq, reduceIte, t0, t1, t7])
    refine ⟨trivial, trivial, trivial, ?_, ?_⟩
    ·rw [wrap64 (by omega) (by omega)]; rfl
    ·rw [List.take_succ_eq_append_getElem hlt, List.any_append, hno]
     simp only [List.any_cons, List.any_nil, Bool.or_false, Bool.false_or, hb]
  ·refine WC.cond (b := false) (by (try simp only [wk, wl, wx, reduceLT, reduceEqDiff, Nat.reduceBEq, reduceIte]); (try simp); (try omega)) (WC.exit ?_)
   have : i = L.length := by omega
   subst this
   (try simp only [wk, wl, wx, reduceLT, reduceEqDiff, Nat.reduceBEq, reduceIte])
   ((repeat refine WC.seq ?_); refine WC.run ?_)
   (try simp only [wk, wl, wx, reduceLT, reduceEqDiff, Nat.reduceBEq, reduceIte])
   rw [List.take_length] at hno
   refine WC.ret ?_
   (try simp only [wk, wl, wx, reduceLT, reduceEqDiff, Nat.reduceBEq, reduceIte])
   exact ⟨⟨_, rfl, by rw [hno]; rfl⟩, ff⟩
 all_goals (try simp only [wk, wl, wx, reduceLT, reduceEqDiff, Nat.reduceBEq, reduceIte])
 all_goals simp
theorem contains_ok {h : H} {s : V} {L : List RelD} {r : RelD} {rb : Nat} (a : Re g h s L) (hs : In (· < h.next) s) (b : Has h rb (relV r)) (hrb : rb < h.next) (hM : L.length < 2 ^ 62) :
  WF (E g) 109 [s, .func 110 [] [.ptr rb 0]] h fun v h' => v = .bool (L.any (clash r)) ∧ Kept h h' := by
 refine WF.enter fn109 rfl ?_
 ((repeat refine WC.seq ?_); refine WC.run ?_)
 (try simp only [wk, wl, wx, reduceLT, reduceEqDiff, Nat.reduceBEq, reduceIte])
 ((repeat refine WC.seq ?_); refine WC.run ?_)
 (try simp only [wk, wl, wx, reduceLT, reduceEqDiff, Nat.reduceBEq, reduceIte])
 refine (index_ok a hs b hrb hM).mono fun v h1 ⟨⟨k, e, hk⟩, f1⟩ => ?_
 subst e
 (try simp only [wk, wl, wx, reduceLT, reduceEqDiff, Nat.reduceBEq, reduceIte])
 (repeat refine WC.seq ?_)
 refine WC.ret ?_
 (try simp only [wk, wl, wx, reduceLT, reduceEqDiff, Nat.reduceBEq, reduceIte])
 exact ⟨by rw [hk], f1⟩
end Go.Proofs.OP
