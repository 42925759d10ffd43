/- Walks: symbol. -/
import Derived.Test.YtloblhhnlaaajaaDoorC6
set_option linter.unusedVariables false
set_option linter.unusedSimpArgs false
set_option linter.defProp false
set_option linter.unusedSimpArgs false
namespace Go.Proofs.OP
open Go Go.Ev
open Go.Proofs
variable {g : T (List V)}

/-- The error of a symbol behind others. -/
def symE (o : ObjD) (x : SymD) (seen : Bool) : Int :=
  if nameE x.name ≠ 0 then nameE x.name
  else if seen = true then 38
  else if x.sec < 0 ∨ 2 < x.sec ∨ x.off < 0 ∨ secLen o x.sec < x.off then 34
  else if x.glob = false ∧ (x.sec = 0 ∨ x.weak = true) then 14
  else 0
theorem lookup168 {h : H} {b : Nat} {k : List UInt8} {L : List (List UInt8 × V)} (m : Mp h b L) : lookupV (E g) h 168 (.map b) (.str k) true = some (.tuple [(lk k L).getD (.int .i64 0), .bool (lk k L).isSome]) :=
  lookup2 m ty168 rfl ty9 rfl ty3
set_option maxRecDepth 100000 in
/-- (*object.Object).symbol -/
theorem symbol_ok {h : H} {b mb : Nat} {c : Oc} {o : ObjD} {x : SymD} {L : List (List UInt8 × V)} (hb : Has h b (c.cells o)) (hbn : b < h.next) (ob : Ob g h (· < h.next) c o) (m : Mp h mb L) (hmb : mb < h.next) :
    WF (E g) 81 [.ptr b 0, .agg (symV x), .map mb] h fun v h' => v = i64 (symE o x (lk x.name L).isSome) ∧ Kept h h' := by
  refine WF.enter fn81 rfl ?_
  ((repeat refine WC.seq ?_); refine WC.run ?_)
  (try simp only [wk, wl, Then, Blk, pickV, Nat.reduceLT, Nat.reduceEqDiff, Nat.reduceBEq, reduceIte, isConst, nilCheckV, extractV, wantJ, nth])
  refine wop_box (v := .agg (symV x)) (by (try simp only [wk, wl, Then, Blk, pickV, Nat.reduceLT, Nat.reduceEqDiff, Nat.reduceBEq, reduceIte, isConst, nilCheckV, extractV, wantJ, nth])) ?_
  intro h1 b1 n1 f1
  (try simp only [wk, wl, Then, Blk, pickV, Nat.reduceLT, Nat.reduceEqDiff, Nat.reduceBEq, reduceIte, isConst, nilCheckV, extractV, wantJ, nth])
  have b1 : Has h1 h.next [.str x.name, i64 x.sec, i64 x.off, .bool x.glob, .bool x.weak] := b1
  have hb1 : Has h1 b (c.cells o) := hb.fix f1 hbn
  have ob1 := ob.fix f1 (fun _ h => h)
  have m1 := m.fix f1 hmb
  have l1 : loadP (E g) h1 9 (.ptr h.next 0) = some (.str x.name) := b1.at ty9 rfl 0
  have l2 : loadP (E g) h1 3 (.ptr h.next 1) = some (.int .i64 x.sec) := b1.at ty3 rfl 1
  have l3 : loadP (E g) h1 2 (.ptr h.next 2) = some (.int .i64 x.off) := b1.at ty2 rfl 2
  have l4 : loadP (E g) h1 4 (.ptr h.next 3) = some (.bool x.glob) := b1.at ty4 rfl 3
  have l5 : loadP (E g) h1 4 (.ptr h.next 4) = some (.bool x.weak) := b1.at ty4 rfl 4
  ((repeat refine WC.seq ?_); refine WC.run ?_)
  (try simp only [wk, wl, Then, Blk, pickV, Nat.reduceLT, Nat.reduceEqDiff, Nat.reduceBEq, reduceIte, isConst, nilCheckV, extractV, wantJ, nth, fa95_0, Nat.zero_add, l1])
  refine named_ok.mono fun v h2 ⟨e2, e2'⟩ => ?_
  subst e2 e2'
  (try simp only [wk, wl, Then, Blk, pickV, Nat.reduceLT, Nat.reduceEqDiff, Nat.reduceBEq, reduceIte, isConst, nilCheckV, extractV, wantJ, nth])
  ((repeat refine WC.seq ?_); refine WC.run ?_)
  (try simp only [wk, wl, Then, Blk, pickV, Nat.reduceLT, Nat.reduceEqDiff, Nat.reduceBEq, reduceIte, isConst, nilCheckV, extractV, wantJ, nth])
  (repeat refine WC.seq ?_)
  rcases (Decidable.em (nameE x.name = 0)).symm with hn | hn
  · refine WC.cond (b := true) (by (try simp only [wk, wl, Then, Blk, pickV, Nat.reduceLT, Nat.reduceEqDiff, Nat.reduceBEq, reduceIte, isConst, nilCheckV, extractV, wantJ, nth, hn]); (try simp); (try omega)) ?_
    ((repeat refine WC.seq ?_); refine WC.run ?_)
    (try simp only [wk, wl, Then, Blk, pickV, Nat.reduceLT, Nat.reduceEqDiff, Nat.reduceBEq, reduceIte, isConst, nilCheckV, extractV, wantJ, nth])
    refine WC.ret ?_
    (try simp only [wk, wl, Then, Blk, pickV, Nat.reduceLT, Nat.reduceEqDiff, Nat.reduceBEq, reduceIte, isConst, nilCheckV, extractV, wantJ, nth])
    exact ⟨by rw [symE, if_pos hn]; rfl, f1⟩
  refine WC.cond (b := false) (by (try simp only [wk, wl, Then, Blk, pickV, Nat.reduceLT, Nat.reduceEqDiff, Nat.reduceBEq, reduceIte, isConst, nilCheckV, extractV, wantJ, nth, hn]); (try simp); (try omega)) (WC.skip ?_)
  (try simp only [wk, wl, Then, Blk, pickV, Nat.reduceLT, Nat.reduceEqDiff, Nat.reduceBEq, reduceIte, isConst, nilCheckV, extractV, wantJ, nth])
  ((repeat refine WC.seq ?_); refine WC.run ?_)
  (try simp only [wk, wl, Then, Blk, pickV, Nat.reduceLT, Nat.reduceEqDiff, Nat.reduceBEq, reduceIte, isConst, nilCheckV, extractV, wantJ, nth, fa95_0, Nat.zero_add, l1, w_lookup, lookup168 m1])
  (repeat refine WC.seq ?_)
  refine WC.block ?_
  ((repeat refine WC.seq ?_); refine WC.run ?_)
  (try simp only [wk, wl, Then, Blk, pickV, Nat.reduceLT, Nat.reduceEqDiff, Nat.reduceBEq, reduceIte, isConst, nilCheckV, extractV, wantJ, nth])
  (repeat refine WC.seq ?_)
  cases hs : (lk x.name L).isSome with
  | true =>
    refine WC.cond (b := true) (by (try simp only [wk, wl, Then, Blk, pickV, Nat.reduceLT, Nat.reduceEqDiff, Nat.reduceBEq, reduceIte, isConst, nilCheckV, extractV, wantJ, nth, hs]); (try simp); (try omega)) ?_
    ((repeat refine WC.seq ?_); refine WC.run ?_)
    (try simp only [wk, wl, Then, Blk, pickV, Nat.reduceLT, Nat.reduceEqDiff, Nat.reduceBEq, reduceIte, isConst, nilCheckV, extractV, wantJ, nth])
    refine WC.ret ?_
    (try simp only [wk, wl, Then, Blk, pickV, Nat.reduceLT, Nat.reduceEqDiff, Nat.reduceBEq, reduceIte, isConst, nilCheckV, extractV, wantJ, nth])
    exact ⟨by rw [symE, if_neg (by simp [hn]), if_pos rfl]; rfl, f1⟩
  | false =>
    refine WC.cond (b := false) (by (try simp only [wk, wl, Then, Blk, pickV, Nat.reduceLT, Nat.reduceEqDiff, Nat.reduceBEq, reduceIte, isConst, nilCheckV, extractV, wantJ, nth, hs]); (try simp); (try omega)) ?_
    have k1 : WF (E g) 86 [.ptr b 0, .int .i64 x.sec] h2 fun v h' => v = i64 (secLen o x.sec) ∧ h' = h2 := size_ok hb1 ob1
    rcases Decidable.em (x.sec < 0) with r1 | r1
    · ((repeat refine WC.seq ?_); refine WC.draw (plans := pl81_7) (by kernel_rfl) ?_; simp only [pl81_7, List.mem_cons, List.not_mem_nil, or_false, forall_eq_or_imp, forall_eq])
      (try simp (maxSteps := 2000000) only [wk, wl, Then, Blk, pickV, Nat.reduceLT, Nat.reduceEqDiff, Nat.reduceBEq, reduceIte, isConst, nilCheckV, extractV, wantJ, nth, wd, Chk, and_true, true_and, fa95_1, fa95_2, Nat.zero_add, l2, l3, decide_eq_true r1])
      try refine k1.mono fun v h3 ⟨e3, e3'⟩ => ?_
      try subst e3 e3'
      try (try simp (maxSteps := 2000000) only [wk, wl, Then, Blk, pickV, Nat.reduceLT, Nat.reduceEqDiff, Nat.reduceBEq, reduceIte, isConst, nilCheckV, extractV, wantJ, nth, wd, Chk, and_true, true_and, fa95_1, fa95_2, Nat.zero_add, l2, l3, i64, decide_eq_true r1])
      (repeat refine WC.seq ?_)
      refine WC.cond (b := true) (by (try simp only [wk, wl, Then, Blk, pickV, Nat.reduceLT, Nat.reduceEqDiff, Nat.reduceBEq, reduceIte, isConst, nilCheckV, extractV, wantJ, nth]); (try simp); (try omega)) ?_
      ((repeat refine WC.seq ?_); refine WC.run ?_)
      (try simp only [wk, wl, Then, Blk, pickV, Nat.reduceLT, Nat.reduceEqDiff, Nat.reduceBEq, reduceIte, isConst, nilCheckV, extractV, wantJ, nth])
      refine WC.ret ?_
      (try simp only [wk, wl, Then, Blk, pickV, Nat.reduceLT, Nat.reduceEqDiff, Nat.reduceBEq, reduceIte, isConst, nilCheckV, extractV, wantJ, nth])
      refine ⟨?_, f1⟩
      rw [symE, if_neg (by simp [hn]), if_neg (by simp), if_pos (by simp [r1])]
    rcases Decidable.em ((2 : Int) < x.sec) with r2 | r2
    · ((repeat refine WC.seq ?_); refine WC.draw (plans := pl81_7) (by kernel_rfl) ?_; simp only [pl81_7, List.mem_cons, List.not_mem_nil, or_false, forall_eq_or_imp, forall_eq])
      (try simp (maxSteps := 2000000) only [wk, wl, Then, Blk, pickV, Nat.reduceLT, Nat.reduceEqDiff, Nat.reduceBEq, reduceIte, isConst, nilCheckV, extractV, wantJ, nth, wd, Chk, and_true, true_and, fa95_1, fa95_2, Nat.zero_add, l2, l3, decide_eq_false r1, decide_eq_true r2])
      try refine k1.mono fun v h3 ⟨e3, e3'⟩ => ?_
      try subst e3 e3'
      try (try simp (maxSteps := 2000000) only [wk, wl, Then, Blk, pickV, Nat.reduceLT, Nat.reduceEqDiff, Nat.reduceBEq, reduceIte, isConst, nilCheckV, extractV, wantJ, nth, wd, Chk, and_true, true_and, fa95_1, fa95_2, Nat.zero_add, l2, l3, i64, decide_eq_false r1, decide_eq_true r2])
      (repeat refine WC.seq ?_)
      refine WC.cond (b := true) (by (try simp only [wk, wl, Then, Blk, pickV, Nat.reduceLT, Nat.reduceEqDiff, Nat.reduceBEq, reduceIte, isConst, nilCheckV, extractV, wantJ, nth]); (try simp); (try omega)) ?_
      ((repeat refine WC.seq ?_); refine WC.run ?_)
      (try simp only [wk, wl, Then, Blk, pickV, Nat.reduceLT, Nat.reduceEqDiff, Nat.reduceBEq, reduceIte, isConst, nilCheckV, extractV, wantJ, nth])
      refine WC.ret ?_
      (try simp only [wk, wl, Then, Blk, pickV, Nat.reduceLT, Nat.reduceEqDiff, Nat.reduceBEq, reduceIte, isConst, nilCheckV, extractV, wantJ, nth])
      refine ⟨?_, f1⟩
      rw [symE, if_neg (by simp [hn]), if_neg (by simp), if_pos (by simp [r1, r2])]
    rcases Decidable.em (x.off < 0) with r3 | r3
    · ((repeat refine WC.seq ?_); refine WC.draw (plans := pl81_7) (by kernel_rfl) ?_; simp only [pl81_7, List.mem_cons, List.not_mem_nil, or_false, forall_eq_or_imp, forall_eq])
      (try simp (maxSteps := 2000000) only [wk, wl, Then, Blk, pickV, Nat.reduceLT, Nat.reduceEqDiff, Nat.reduceBEq, reduceIte, isConst, nilCheckV, extractV, wantJ, nth, wd, Chk, and_true, true_and, fa95_1, fa95_2, Nat.zero_add, l2, l3, decide_eq_false r1, decide_eq_false r2, decide_eq_true r3])
      try refine k1.mono fun v h3 ⟨e3, e3'⟩ => ?_
      try subst e3 e3'
      try (try simp (maxSteps := 2000000) only [wk, wl, Then, Blk, pickV, Nat.reduceLT, Nat.reduceEqDiff, Nat.reduceBEq, reduceIte, isConst, nilCheckV, extractV, wantJ, nth, wd, Chk, and_true, true_and, fa95_1, fa95_2, Nat.zero_add, l2, l3, i64, decide_eq_false r1, decide_eq_false r2, decide_eq_true r3])
      (repeat refine WC.seq ?_)
      refine WC.cond (b := true) (by (try simp only [wk, wl, Then, Blk, pickV, Nat.reduceLT, Nat.reduceEqDiff, Nat.reduceBEq, reduceIte, isConst, nilCheckV, extractV, wantJ, nth]); (try simp); (try omega)) ?_
      ((repeat refine WC.seq ?_); refine WC.run ?_)
      (try simp only [wk, wl, Then, Blk, pickV, Nat.reduceLT, Nat.reduceEqDiff, Nat.reduceBEq, reduceIte, isConst, nilCheckV, extractV, wantJ, nth])
      refine WC.ret ?_
      (try simp only [wk, wl, Then, Blk, pickV, Nat.reduceLT, Nat.reduceEqDiff, Nat.reduceBEq, reduceIte, isConst, nilCheckV, extractV, wantJ, nth])
      refine ⟨?_, f1⟩
      rw [symE, if_neg (by simp [hn]), if_neg (by simp), if_pos (by simp [r1, r2, r3])]
    rcases Decidable.em (secLen o x.sec < x.off) with r4 | r4
    · ((repeat refine WC.seq ?_); refine WC.draw (plans := pl81_7) (by kernel_rfl) ?_; simp only [pl81_7, List.mem_cons, List.not_mem_nil, or_false, forall_eq_or_imp, forall_eq])
      (try simp (maxSteps := 2000000) only [wk, wl, Then, Blk, pickV, Nat.reduceLT, Nat.reduceEqDiff, Nat.reduceBEq, reduceIte, isConst, nilCheckV, extractV, wantJ, nth, wd, Chk, and_true, true_and, fa95_1, fa95_2, Nat.zero_add, l2, l3, decide_eq_false r1, decide_eq_false r2, decide_eq_false r3, decide_eq_true r4])
      try refine k1.mono fun v h3 ⟨e3, e3'⟩ => ?_
      try subst e3 e3'
      try (try simp (maxSteps := 2000000) only [wk, wl, Then, Blk, pickV, Nat.reduceLT, Nat.reduceEqDiff, Nat.reduceBEq, reduceIte, isConst, nilCheckV, extractV, wantJ, nth, wd, Chk, and_true, true_and, fa95_1, fa95_2, Nat.zero_add, l2, l3, i64, decide_eq_false r1, decide_eq_false r2, decide_eq_false r3, decide_eq_true r4])
      (repeat refine WC.seq ?_)
      refine WC.cond (b := true) (by (try simp only [wk, wl, Then, Blk, pickV, Nat.reduceLT, Nat.reduceEqDiff, Nat.reduceBEq, reduceIte, isConst, nilCheckV, extractV, wantJ, nth]); (try simp); (try omega)) ?_
      ((repeat refine WC.seq ?_); refine WC.run ?_)
      (try simp only [wk, wl, Then, Blk, pickV, Nat.reduceLT, Nat.reduceEqDiff, Nat.reduceBEq, reduceIte, isConst, nilCheckV, extractV, wantJ, nth])
      refine WC.ret ?_
      (try simp only [wk, wl, Then, Blk, pickV, Nat.reduceLT, Nat.reduceEqDiff, Nat.reduceBEq, reduceIte, isConst, nilCheckV, extractV, wantJ, nth])
      refine ⟨?_, f1⟩
      rw [symE, if_neg (by simp [hn]), if_neg (by simp), if_pos (by simp [r1, r2, r3, r4])]
    ((repeat refine WC.seq ?_); refine WC.draw (plans := pl81_7) (by kernel_rfl) ?_; simp only [pl81_7, List.mem_cons, List.not_mem_nil, or_false, forall_eq_or_imp, forall_eq])
    (try simp (maxSteps := 2000000) only [wk, wl, Then, Blk, pickV, Nat.reduceLT, Nat.reduceEqDiff, Nat.reduceBEq, reduceIte, isConst, nilCheckV, extractV, wantJ, nth, wd, Chk, and_true, true_and, fa95_1, fa95_2, Nat.zero_add, l2, l3, decide_eq_false r1, decide_eq_false r2, decide_eq_false r3, decide_eq_false r4])
    refine k1.mono fun v h3 ⟨e3, e3'⟩ => ?_
    subst e3 e3'
    (try simp (maxSteps := 2000000) only [wk, wl, Then, Blk, pickV, Nat.reduceLT, Nat.reduceEqDiff, Nat.reduceBEq, reduceIte, isConst, nilCheckV, extractV, wantJ, nth, wd, Chk, and_true, true_and, fa95_1, fa95_2, Nat.zero_add, l2, l3, i64, decide_eq_false r1, decide_eq_false r2, decide_eq_false r3, decide_eq_false r4])
    (repeat refine WC.seq ?_)
    refine WC.cond (b := false) (by (try simp only [wk, wl, Then, Blk, pickV, Nat.reduceLT, Nat.reduceEqDiff, Nat.reduceBEq, reduceIte, isConst, nilCheckV, extractV, wantJ, nth, decide_eq_false r1, decide_eq_false r2, decide_eq_false r3, decide_eq_false r4]); (try simp); (try omega)) ?_
    have hS : symE o x false = if x.glob = false ∧ (x.sec = 0 ∨ x.weak = true) then 14 else 0 := by
      rw [symE, if_neg (by simp [hn]), if_neg (by simp), if_neg (by simp [r1, r2, r3, r4])]
    rw [hS]
    have hz : ∀ n : Int, (V.bool (n == 0)) = .bool (decide (n = 0)) := fun n => by congr 1
    rcases Bool.eq_false_or_eq_true (x.glob) with q1 | q1
    · ((repeat refine WC.seq ?_); refine WC.run ?_)
      (try simp only [wk, wl, Then, Blk, pickV, Nat.reduceLT, Nat.reduceEqDiff, Nat.reduceBEq, reduceIte, isConst, nilCheckV, extractV, wantJ, nth, fa95_1, fa95_3, fa95_4, Nat.zero_add, l2, l4, l5, q1, un_not, Bool.not_true])
      (repeat refine WC.seq ?_)
      refine WC.cond (b := false) (by (try simp only [wk, wl, Then, Blk, pickV, Nat.reduceLT, Nat.reduceEqDiff, Nat.reduceBEq, reduceIte, isConst, nilCheckV, extractV, wantJ, nth]); (try simp); (try omega)) (WC.skip ?_)
      (try simp only [wk, wl, Then, Blk, pickV, Nat.reduceLT, Nat.reduceEqDiff, Nat.reduceBEq, reduceIte, isConst, nilCheckV, extractV, wantJ, nth])
      ((repeat refine WC.seq ?_); refine WC.run ?_)
      (try simp only [wk, wl, Then, Blk, pickV, Nat.reduceLT, Nat.reduceEqDiff, Nat.reduceBEq, reduceIte, isConst, nilCheckV, extractV, wantJ, nth])
      refine WC.ret ?_
      (try simp only [wk, wl, Then, Blk, pickV, Nat.reduceLT, Nat.reduceEqDiff, Nat.reduceBEq, reduceIte, isConst, nilCheckV, extractV, wantJ, nth])
      refine ⟨?_, f1⟩
      rw [if_neg (by simp [q1])]
    rcases Decidable.em (x.sec = 0) with q2 | q2
    · ((repeat refine WC.seq ?_); refine WC.run ?_)
      (try simp only [wk, wl, Then, Blk, pickV, Nat.reduceLT, Nat.reduceEqDiff, Nat.reduceBEq, reduceIte, isConst, nilCheckV, extractV, wantJ, nth, fa95_1, fa95_3, fa95_4, Nat.zero_add, l2, l4, l5, q1, un_not, Bool.not_false, hz, decide_eq_true q2])
      (repeat refine WC.seq ?_)
      refine WC.cond (b := true) (by (try simp only [wk, wl, Then, Blk, pickV, Nat.reduceLT, Nat.reduceEqDiff, Nat.reduceBEq, reduceIte, isConst, nilCheckV, extractV, wantJ, nth, hz, decide_eq_true q2]); (try simp); (try omega)) ?_
      ((repeat refine WC.seq ?_); refine WC.run ?_)
      (try simp only [wk, wl, Then, Blk, pickV, Nat.reduceLT, Nat.reduceEqDiff, Nat.reduceBEq, reduceIte, isConst, nilCheckV, extractV, wantJ, nth])
      refine WC.ret ?_
      (try simp only [wk, wl, Then, Blk, pickV, Nat.reduceLT, Nat.reduceEqDiff, Nat.reduceBEq, reduceIte, isConst, nilCheckV, extractV, wantJ, nth])
      refine ⟨?_, f1⟩
      rw [if_pos (by simp [q1, q2])]
    rcases Bool.eq_false_or_eq_true (x.weak) with q3 | q3
    · ((repeat refine WC.seq ?_); refine WC.run ?_)
      (try simp only [wk, wl, Then, Blk, pickV, Nat.reduceLT, Nat.reduceEqDiff, Nat.reduceBEq, reduceIte, isConst, nilCheckV, extractV, wantJ, nth, fa95_1, fa95_3, fa95_4, Nat.zero_add, l2, l4, l5, q1, un_not, Bool.not_false, hz, decide_eq_false q2, q3])
      (repeat refine WC.seq ?_)
      refine WC.cond (b := true) (by (try simp only [wk, wl, Then, Blk, pickV, Nat.reduceLT, Nat.reduceEqDiff, Nat.reduceBEq, reduceIte, isConst, nilCheckV, extractV, wantJ, nth, hz, decide_eq_false q2, q3]); (try simp); (try omega)) ?_
      ((repeat refine WC.seq ?_); refine WC.run ?_)
      (try simp only [wk, wl, Then, Blk, pickV, Nat.reduceLT, Nat.reduceEqDiff, Nat.reduceBEq, reduceIte, isConst, nilCheckV, extractV, wantJ, nth])
      refine WC.ret ?_
      (try simp only [wk, wl, Then, Blk, pickV, Nat.reduceLT, Nat.reduceEqDiff, Nat.reduceBEq, reduceIte, isConst, nilCheckV, extractV, wantJ, nth])
      refine ⟨?_, f1⟩
      rw [if_pos (by simp [q1, q2, q3])]
    ((repeat refine WC.seq ?_); refine WC.run ?_)
    (try simp only [wk, wl, Then, Blk, pickV, Nat.reduceLT, Nat.reduceEqDiff, Nat.reduceBEq, reduceIte, isConst, nilCheckV, extractV, wantJ, nth, fa95_1, fa95_3, fa95_4, Nat.zero_add, l2, l4, l5, q1, un_not, Bool.not_false, hz, decide_eq_false q2, q3])
    (repeat refine WC.seq ?_)
    refine WC.cond (b := false) (by (try simp only [wk, wl, Then, Blk, pickV, Nat.reduceLT, Nat.reduceEqDiff, Nat.reduceBEq, reduceIte, isConst, nilCheckV, extractV, wantJ, nth, hz, decide_eq_false q2, q3]); (try simp); (try omega)) (WC.skip ?_)
    (try simp only [wk, wl, Then, Blk, pickV, Nat.reduceLT, Nat.reduceEqDiff, Nat.reduceBEq, reduceIte, isConst, nilCheckV, extractV, wantJ, nth])
    ((repeat refine WC.seq ?_); refine WC.run ?_)
    (try simp only [wk, wl, Then, Blk, pickV, Nat.reduceLT, Nat.reduceEqDiff, Nat.reduceBEq, reduceIte, isConst, nilCheckV, extractV, wantJ, nth])
    refine WC.ret ?_
    (try simp only [wk, wl, Then, Blk, pickV, Nat.reduceLT, Nat.reduceEqDiff, Nat.reduceBEq, reduceIte, isConst, nilCheckV, extractV, wantJ, nth])
    refine ⟨?_, f1⟩
    rw [if_neg (by simp [q1, q2, q3])]
end Go.Proofs.OP
