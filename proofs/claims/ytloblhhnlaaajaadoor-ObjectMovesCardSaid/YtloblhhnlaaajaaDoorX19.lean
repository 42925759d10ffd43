/- Walks: reloc, Contains. -/
import Derived.Test.YtloblhhnlaaajaaDoorX15
import Derived.Test.YtloblhhnlaaajaaDoorX18
set_option linter.unusedVariables false
set_option linter.unusedSimpArgs false
set_option linter.defProp false
set_option linter.unusedSimpArgs false
namespace Go.Proofs.OP
open Go Go.Ev
open Go.Proofs
open Nat (reduceLT reduceEqDiff)
variable {g : T (List V)}

def relE (o : ObjD) (prev : List RelD) (known : Bool) (r : RelD) : Int :=
 if r.sec < 1 ∨ 2 < r.sec ∨ r.off < 0 ∨ secLen o r.sec - 4 < r.off ∨ r.add < -2147483648 ∨ 2147483648 < r.add then 34
 else if r.kind < 0 ∨ 3 ≤ r.kind then 17
 else if known = false then 22
 else if prev.any (clash r) = true then 10
 else 0
theorem secLen_bounds {o : ObjD} {n : Int} : 0 ≤ secLen o n ∧ secLen o n ≤ o.code.length + o.data.length := by
 unfold secLen
 split
 ·omega
 ·split <;> omega
set_option maxRecDepth 100000 in
set_option maxHeartbeats 8000000 in
theorem reloc_ok {h : H} {b mb : Nat} {c : Oc} {o : ObjD} {i : Nat} {L : List (List UInt8 × V)} (hb : Has h b (c.cells o)) (hbn : b < h.next) (ob : Ob g h (· < h.next) c o) (m : Mp h mb L) (hmb : mb < h.next) (hi : i < o.rels.length) (hR : o.rels.length < 2 ^ 40) (hC : o.code.length < 2 ^ 40) (hD : o.data.length < 2 ^ 40) :
  WF (E g) 82 [.ptr b 0, .int .i64 i, .map mb] h fun v h' => v = i64 (relE o (o.rels.take i) (lk o.rels[i].sym L).isSome o.rels[i]) ∧ Kept h h' := by
 generalize hr : o.rels[i] = r
 have hb0 : Has h b [.str o.name, c.code, c.data, c.syms, c.rels, c.needs, .str o.entry] := hb
 refine WF.enter fn82 rfl ?_
 ((repeat refine WC.seq ?_); refine WC.run ?_)
 (try simp only [wk, wl, wx, reduceLT, reduceEqDiff, Nat.reduceBEq, reduceIte])
 obtain ⟨p, p1, p2⟩ := ob.rels.at (fun _ => rfl) ty75 rfl ty97 rfl (by decide) rfl hi
 have p2 := p2 h fun _ _ _ _ _ => rfl
 rw [hr] at p2
 ((repeat refine WC.seq ?_); refine WC.run ?_)
 (try simp only [wk, wl, wx, reduceLT, reduceEqDiff, Nat.reduceBEq, reduceIte, fa77_4, Nat.zero_add, hb0.at ty75 rfl, p1, p2])
 refine wop_alloc ty97 ?_
 intro h0 b0 n0 f0
 (try simp only [wk, wl, wx, reduceLT, reduceEqDiff, Nat.reduceBEq, reduceIte])
 refine sat_store b0 ty97 rfl (by decide) rfl ?_
 intro h1 b1 n1 f1
 have b1 : Has h1 h.next (relV r) := b1
 have F : Kept h h1 := ⟨by omega, fun c hc => by rw [f1.same c (by omega), f0.same c hc]⟩
 have hb1 : Has h1 b (c.cells o) := hb.fix F hbn
 have hb2 : Has h1 b [.str o.name, c.code, c.data, c.syms, c.rels, c.needs, .str o.entry] := hb1
 have ob1 := (ob.fix F (fun _ h => h)).up (K' := (· < h1.next)) (fun _ h => by omega)
 have m1 := m.fix F hmb
 have l1 : loadP (E g) h1 3 (.ptr h.next 0) = some (.int .i64 r.sec) := b1.at ty3 rfl 0
 have l2 : loadP (E g) h1 2 (.ptr h.next 1) = some (.int .i64 r.off) := b1.at ty2 rfl 1
 have l3 : loadP (E g) h1 3 (.ptr h.next 2) = some (.int .i64 r.kind) := b1.at ty3 rfl 2
 have l4 : loadP (E g) h1 9 (.ptr h.next 3) = some (.str r.sym) := b1.at ty9 rfl 3
 have l5 : loadP (E g) h1 2 (.ptr h.next 4) = some (.int .i64 r.add) := b1.at ty2 rfl 4
 (try simp only [wk, wl, wx, reduceLT, reduceEqDiff, Nat.reduceBEq, reduceIte])
 ((repeat refine WC.seq ?_); refine WC.run ?_)
 (try simp only [wk, wl, wx, reduceLT, reduceEqDiff, Nat.reduceBEq, reduceIte, fa97_3, Nat.zero_add, l4, w_lookup, lookup168 m1])
 (repeat refine WC.seq ?_)
 refine WC.block ?_
 have k1 : WF (E g) 86 [.ptr b 0, .int .i64 r.sec] h1 fun v h' => v = i64 (secLen o r.sec) ∧ h' = h1 := size_ok hb1 ob1
 have hsb := secLen_bounds (o := o) (n := r.sec)
 have hw : IntKind.i64.wrap (secLen o r.sec - 4) = secLen o r.sec - 4 := wrap64 (by omega) (by omega)
 (repeat refine WC.seq ?_)
 rcases Decidable.em (r.sec < 1) with r1 | r1
 ·((repeat refine WC.seq ?_); refine WC.draw (plans := pl82_3) (by kernel_rfl) ?_; simp only [pl82_3, List.mem_cons, List.not_mem_nil, or_false, forall_eq_or_imp, forall_eq])
  (try simp (maxSteps := 2000000) only [wk, wl, wx, reduceLT, reduceEqDiff, Nat.reduceBEq, reduceIte, wd, Chk, and_true, true_and, fa97_0, fa97_1, fa97_4, Nat.zero_add, l1, l2, l5, bin_sub, decide_eq_true r1])
  try refine k1.mono fun v h3 ⟨e3, e3'⟩ => ?_
  try subst e3 e3'
  try (try simp (maxSteps := 2000000) only [wk, wl, wx, reduceLT, reduceEqDiff, Nat.reduceBEq, reduceIte, wd, Chk, and_true, true_and, fa97_0, fa97_1, fa97_4, Nat.zero_add, l1, l2, l5, i64, bin_sub, hw, decide_eq_true r1])
  (repeat refine WC.seq ?_)
  refine WC.cond (b := true) (by (try simp only [wk, wl, wx, reduceLT, reduceEqDiff, Nat.reduceBEq, reduceIte]); (try simp); (try omega)) ?_
  ((repeat refine WC.seq ?_); refine WC.run ?_)
  (try simp only [wk, wl, wx, reduceLT, reduceEqDiff, Nat.reduceBEq, reduceIte])
  refine WC.ret ?_
  (try simp only [wk, wl, wx, reduceLT, reduceEqDiff, Nat.reduceBEq, reduceIte])
  refine ⟨?_, F⟩
  rw [relE, if_pos (by simp [r1])]
 rcases Decidable.em ((2 : Int) < r.sec) with r2 | r2
 ·((repeat refine WC.seq ?_); refine WC.draw (plans := pl82_3) (by kernel_rfl) ?_; simp only [pl82_3, List.mem_cons, List.not_mem_nil, or_false, forall_eq_or_imp, forall_eq])
  (try simp (maxSteps := 2000000) only [wk, wl, wx, reduceLT, reduceEqDiff, Nat.reduceBEq, reduceIte, wd, Chk, and_true, true_and, fa97_0, fa97_1, fa97_4, Nat.zero_add, l1, l2, l5, bin_sub, decide_eq_false r1, decide_eq_true r2])
  try refine k1.mono fun v h3 ⟨e3, e3'⟩ => ?_
  try subst e3 e3'
  try (try simp (maxSteps := 2000000) only [wk, wl, wx, reduceLT, reduceEqDiff, Nat.reduceBEq, reduceIte, wd, Chk, and_true, true_and, fa97_0, fa97_1, fa97_4, Nat.zero_add, l1, l2, l5, i64, bin_sub, hw, decide_eq_false r1, decide_eq_true r2])
  (repeat refine WC.seq ?_)
  refine WC.cond (b := true) (by (try simp only [wk, wl, wx, reduceLT, reduceEqDiff, Nat.reduceBEq, reduceIte]); (try simp); (try omega)) ?_
  ((repeat refine WC.seq ?_); refine WC.run ?_)
  (try simp only [wk, wl, wx, reduceLT, reduceEqDiff, Nat.reduceBEq, reduceIte])
  refine WC.ret ?_
  (try simp only [wk, wl, wx, reduceLT, reduceEqDiff, Nat.reduceBEq, reduceIte])
  refine ⟨?_, F⟩
  rw [relE, if_pos (by simp [r1, r2])]
 rcases Decidable.em (r.off < 0) with r3 | r3
 ·((repeat refine WC.seq ?_); refine WC.draw (plans := pl82_3) (by kernel_rfl) ?_; simp only [pl82_3, List.mem_cons, List.not_mem_nil, or_false, forall_eq_or_imp, forall_eq])
  (try simp (maxSteps := 2000000) only [wk, wl, wx, reduceLT, reduceEqDiff, Nat.reduceBEq, reduceIte, wd, Chk, and_true, true_and, fa97_0, fa97_1, fa97_4, Nat.zero_add, l1, l2, l5, bin_sub, decide_eq_false r1, decide_eq_false r2, decide_eq_true r3])
  try refine k1.mono fun v h3 ⟨e3, e3'⟩ => ?_
  try subst e3 e3'
  try (try simp (maxSteps := 2000000) only [wk, wl, wx, reduceLT, reduceEqDiff, Nat.reduceBEq, reduceIte, wd, Chk, and_true, true_and, fa97_0, fa97_1, fa97_4, Nat.zero_add, l1, l2, l5, i64, bin_sub, hw, decide_eq_false r1, decide_eq_false r2, decide_eq_true r3])
  (repeat refine WC.seq ?_)
  refine WC.cond (b := true) (by (try simp only [wk, wl, wx, reduceLT, reduceEqDiff, Nat.reduceBEq, reduceIte]); (try simp); (try omega)) ?_
  ((repeat refine WC.seq ?_); refine WC.run ?_)
  (try simp only [wk, wl, wx, reduceLT, reduceEqDiff, Nat.reduceBEq, reduceIte])
  refine WC.ret ?_
  (try simp only [wk, wl, wx, reduceLT, reduceEqDiff, Nat.reduceBEq, reduceIte])
  refine ⟨?_, F⟩
  rw [relE, if_pos (by simp [r1, r2, r3])]
 rcases Decidable.em (secLen o r.sec - 4 < r.off) with r4 | r4
 ·((repeat refine WC.seq ?_); refine WC.draw (plans := pl82_3) (by kernel_rfl) ?_; simp only [pl82_3, List.mem_cons, List.not_mem_nil, or_false, forall_eq_or_imp, forall_eq])
  (try simp (maxSteps := 2000000) only [wk, wl, wx, reduceLT, reduceEqDiff, Nat.reduceBEq, reduceIte, wd, Chk, and_true, true_and, fa97_0, fa97_1, fa97_4, Nat.zero_add, l1, l2, l5, bin_sub, decide_eq_false r1, decide_eq_false r2, decide_eq_false r3, decide_eq_true r4])
  try refine k1.mono fun v h3 ⟨e3, e3'⟩ => ?_
  try subst e3 e3'
  try (try simp (maxSteps := 2000000) only [wk, wl, wx, reduceLT, reduceEqDiff, Nat.reduceBEq, reduceIte, wd, Chk, and_true, true_and, fa97_0, fa97_1, fa97_4, Nat.zero_add, l1, l2, l5, i64, bin_sub, hw, decide_eq_false r1, decide_eq_false r2, decide_eq_false r3, decide_eq_true r4])
  (repeat refine WC.seq ?_)
  refine WC.cond (b := true) (by (try simp only [wk, wl, wx, reduceLT, reduceEqDiff, Nat.reduceBEq, reduceIte]); (try simp); (try omega)) ?_
  ((repeat refine WC.seq ?_); refine WC.run ?_)
  (try simp only [wk, wl, wx, reduceLT, reduceEqDiff, Nat.reduceBEq, reduceIte])
  refine WC.ret ?_
  (try simp only [wk, wl, wx, reduceLT, reduceEqDiff, Nat.reduceBEq, reduceIte])
  refine ⟨?_, F⟩
  rw [relE, if_pos (by simp [r1, r2, r3, r4])]
 rcases Decidable.em (r.add < -2147483648) with r5 | r5
 ·((repeat refine WC.seq ?_); refine WC.draw (plans := pl82_3) (by kernel_rfl) ?_; simp only [pl82_3, List.mem_cons, List.not_mem_nil, or_false, forall_eq_or_imp, forall_eq])
  (try simp (maxSteps := 2000000) only [wk, wl, wx, reduceLT, reduceEqDiff, Nat.reduceBEq, reduceIte, wd, Chk, and_true, true_and, fa97_0, fa97_1, fa97_4, Nat.zero_add, l1, l2, l5, bin_sub, decide_eq_false r1, decide_eq_false r2, decide_eq_false r3, decide_eq_false r4, decide_eq_true r5])
  try refine k1.mono fun v h3 ⟨e3, e3'⟩ => ?_
  try subst e3 e3'
  try (try simp (maxSteps := 2000000) only [wk, wl, wx, reduceLT, reduceEqDiff, Nat.reduceBEq, reduceIte, wd, Chk, and_true, true_and, fa97_0, fa97_1, fa97_4, Nat.zero_add, l1, l2, l5, i64, bin_sub, hw, decide_eq_false r1, decide_eq_false r2, decide_eq_false r3, decide_eq_false r4, decide_eq_true r5])
  (repeat refine WC.seq ?_)
  refine WC.cond (b := true) (by (try simp only [wk, wl, wx, reduceLT, reduceEqDiff, Nat.reduceBEq, reduceIte]); (try simp); (try omega)) ?_
  ((repeat refine WC.seq ?_); refine WC.run ?_)
  (try simp only [wk, wl, wx, reduceLT, reduceEqDiff, Nat.reduceBEq, reduceIte])
  refine WC.ret ?_
  (try simp only [wk, wl, wx, reduceLT, reduceEqDiff, Nat.reduceBEq, reduceIte])
  refine ⟨?_, F⟩
  rw [relE, if_pos (by simp [r1, r2, r3, r4, r5])]
 rcases Decidable.em ((2147483648 : Int) < r.add) with r6 | r6
 ·((repeat refine WC.seq ?_); refine WC.draw (plans := pl82_3) (by kernel_rfl) ?_; simp only [pl82_3, List.mem_cons, List.not_mem_nil, or_false, forall_eq_or_imp, forall_eq])
  (try simp (maxSteps := 2000000) only [wk, wl, wx, reduceLT, reduceEqDiff, Nat.reduceBEq, reduceIte, wd, Chk, and_true, true_and, fa97_0, fa97_1, fa97_4, Nat.zero_add, l1, l2, l5, bin_sub, decide_eq_false r1, decide_eq_false r2, decide_eq_false r3, decide_eq_false r4, decide_eq_false r5, decide_eq_true r6])
  try refine k1.mono fun v h3 ⟨e3, e3'⟩ => ?_
  try subst e3 e3'
  try (try simp (maxSteps := 2000000) only [wk, wl, wx, reduceLT, reduceEqDiff, Nat.reduceBEq, reduceIte, wd, Chk, and_true, true_and, fa97_0, fa97_1, fa97_4, Nat.zero_add, l1, l2, l5, i64, bin_sub, hw, decide_eq_false r1, decide_eq_false r2, decide_eq_false r3, decide_eq_false r4, decide_eq_false r5, decide_eq_true r6])
  (repeat refine WC.seq ?_)
  refine WC.cond (b := true) (by (try simp only [wk, wl, wx, reduceLT, reduceEqDiff, Nat.reduceBEq, reduceIte]); (try simp); (try omega)) ?_
  ((repeat refine WC.seq ?_); refine WC.run ?_)
  (try simp only [wk, wl, wx, reduceLT, reduceEqDiff, Nat.reduceBEq, reduceIte])
  refine WC.ret ?_
  (try simp only [wk, wl, wx, reduceLT, reduceEqDiff, Nat.reduceBEq, reduceIte])
  refine ⟨?_, F⟩
  rw [relE, if_pos (by simp [r1, r2, r3, r4, r5, r6])]
 ((repeat refine WC.seq ?_); refine WC.draw (plans := pl82_3) (by kernel_rfl) ?_; simp only [pl82_3, List.mem_cons, List.not_mem_nil, or_false, forall_eq_or_imp, forall_eq])
 (try simp (maxSteps := 2000000) only [wk, wl, wx, reduceLT, reduceEqDiff, Nat.reduceBEq, reduceIte, wd, Chk, and_true, true_and, fa97_0, fa97_1, fa97_4, Nat.zero_add, l1, l2, l5, bin_sub, decide_eq_false r1, decide_eq_false r2, decide_eq_false r3, decide_eq_false r4, decide_eq_false r5, decide_eq_false r6])
 refine k1.mono fun v h3 ⟨e3, e3'⟩ => ?_
 subst e3 e3'
 (try simp (maxSteps := 2000000) only [wk, wl, wx, reduceLT, reduceEqDiff, Nat.reduceBEq, reduceIte, wd, Chk, and_true, true_and, fa97_0, fa97_1, fa97_4, Nat.zero_add, l1, l2, l5, i64, bin_sub, hw, decide_eq_false r1, decide_eq_false r2, decide_eq_false r3, decide_eq_false r4, decide_eq_false r5, decide_eq_false r6])
 (repeat refine WC.seq ?_)
 refine WC.cond (b := false) (by (try simp only [wk, wl, wx, reduceLT, reduceEqDiff, Nat.reduceBEq, reduceIte, decide_eq_false r1, decide_eq_false r2, decide_eq_false r3, decide_eq_false r4, decide_eq_false r5, decide_eq_false r6]); (try simp); (try omega)) ?_
 have hS : ∀ k : Bool, relE o (o.rels.take i) k r = if r.kind < 0 ∨ 3 ≤ r.kind then 17 else if k = false then 22 else if (o.rels.take i).any (clash r) = true then 10 else 0 := by
  intro k
  rw [relE, if_neg (by simp only [r1, r2, r3, r4, r5, r6, or_self, not_false_iff])]
 rw [hS]
 rcases Decidable.em (r.kind < 0) with s1 | s1
 ·((repeat refine WC.seq ?_); refine WC.run ?_)
  (try simp only [wk, wl, wx, reduceLT, reduceEqDiff, Nat.reduceBEq, reduceIte, fa97_2, Nat.zero_add, l3, decide_eq_true s1])
  (repeat refine WC.seq ?_)
  refine WC.cond (b := true) (by (try simp only [wk, wl, wx, reduceLT, reduceEqDiff, Nat.reduceBEq, reduceIte]); (try simp); (try omega)) ?_
  ((repeat refine WC.seq ?_); refine WC.run ?_)
  (try simp only [wk, wl, wx, reduceLT, reduceEqDiff, Nat.reduceBEq, reduceIte])
  refine WC.ret ?_
  (try simp only [wk, wl, wx, reduceLT, reduceEqDiff, Nat.reduceBEq, reduceIte])
  refine ⟨?_, F⟩
  rw [if_pos (by simp [s1])]
 rcases Decidable.em ((3 : Int) ≤ r.kind) with s2 | s2
 ·((repeat refine WC.seq ?_); refine WC.run ?_)
  (try simp only [wk, wl, wx, reduceLT, reduceEqDiff, Nat.reduceBEq, reduceIte, fa97_2, Nat.zero_add, l3, decide_eq_false s1, decide_eq_true s2])
  (repeat refine WC.seq ?_)
  refine WC.cond (b := true) (by (try simp only [wk, wl, wx, reduceLT, reduceEqDiff, Nat.reduceBEq, reduceIte]); (try simp); (try omega)) ?_
  ((repeat refine WC.seq ?_); refine WC.run ?_)
  (try simp only [wk, wl, wx, reduceLT, reduceEqDiff, Nat.reduceBEq, reduceIte])
  refine WC.ret ?_
  (try simp only [wk, wl, wx, reduceLT, reduceEqDiff, Nat.reduceBEq, reduceIte])
  refine ⟨?_, F⟩
  rw [if_pos (by simp [s1, s2])]
 ((repeat refine WC.seq ?_); refine WC.run ?_)
 (try simp only [wk, wl, wx, reduceLT, reduceEqDiff, Nat.reduceBEq, reduceIte, fa97_2, Nat.zero_add, l3, decide_eq_false s1, decide_eq_false s2])
 (repeat refine WC.seq ?_)
 refine WC.cond (b := false) (by (try simp only [wk, wl, wx, reduceLT, reduceEqDiff, Nat.reduceBEq, reduceIte, decide_eq_false s1, decide_eq_false s2]); (try simp); (try omega)) ?_
 rw [if_neg (by simp only [s1, s2, or_self, not_false_iff])]
 ((repeat refine WC.seq ?_); refine WC.run ?_)
 (try simp only [wk, wl, wx, reduceLT, reduceEqDiff, Nat.reduceBEq, reduceIte])
 (repeat refine WC.seq ?_)
 cases hs : (lk r.sym L).isSome with
 | false =>
  refine WC.cond (b := true) (by (try simp only [wk, wl, wx, reduceLT, reduceEqDiff, Nat.reduceBEq, reduceIte, hs]); (try simp); (try omega)) ?_
  ((repeat refine WC.seq ?_); refine WC.run ?_)
  (try simp only [wk, wl, wx, reduceLT, reduceEqDiff, Nat.reduceBEq, reduceIte])
  refine WC.ret ?_
  (try simp only [wk, wl, wx, reduceLT, reduceEqDiff, Nat.reduceBEq, reduceIte])
  refine ⟨?_, F⟩
  first | trivial | (rw [if_pos rfl]; rfl)
 | true =>
  refine WC.cond (b := false) (by (try simp only [wk, wl, wx, reduceLT, reduceEqDiff, Nat.reduceBEq, reduceIte, hs]); (try simp); (try omega)) ?_
  rw [if_neg (by simp)]
  obtain ⟨s', q1, q2, q3⟩ := Rcs.upto ob1.rels (fun _ => rfl) ty75 rfl ty97 rfl (n := i) (by omega)
  ((repeat refine WC.seq ?_); refine WC.run ?_)
  (try simp only [wk, wl, wx, reduceLT, reduceEqDiff, Nat.reduceBEq, reduceIte, fa77_4, Nat.zero_add, hb2.at ty75 rfl, q1, w_makeFunc])
  refine (contains_ok q2 (q3 _ ob1.inR) b1 (by omega) (by simp; omega)).mono fun v h2 ⟨e2, f2⟩ => ?_
  subst e2
  (try simp only [wk, wl, wx, reduceLT, reduceEqDiff, Nat.reduceBEq, reduceIte])
  (repeat refine WC.seq ?_)
  have F2 : Kept h h2 := F.trans (f2.sub fun x hx => by omega)
  cases hc : (o.rels.take i).any (clash r) with
  | true =>
   refine WC.cond (b := true) (by (try simp only [wk, wl, wx, reduceLT, reduceEqDiff, Nat.reduceBEq, reduceIte, hc]); (try simp); (try omega)) ?_
   ((repeat refine WC.seq ?_); refine WC.run ?_)
   (try simp only [wk, wl, wx, reduceLT, reduceEqDiff, Nat.reduceBEq, reduceIte])
   refine WC.ret ?_
   (try simp only [wk, wl, wx, reduceLT, reduceEqDiff, Nat.reduceBEq, reduceIte])
   refine ⟨?_, F2⟩
   first | trivial | (rw [if_pos rfl]; rfl)
  | false =>
   refine WC.cond (b := false) (by (try simp only [wk, wl, wx, reduceLT, reduceEqDiff, Nat.reduceBEq, reduceIte, hc]); (try simp); (try omega)) (WC.skip ?_)
   (try simp only [wk, wl, wx, reduceLT, reduceEqDiff, Nat.reduceBEq, reduceIte])
   ((repeat refine WC.seq ?_); refine WC.run ?_)
   (try simp only [wk, wl, wx, reduceLT, reduceEqDiff, Nat.reduceBEq, reduceIte])
   refine WC.ret ?_
   (try simp only [wk, wl, wx, reduceLT, reduceEqDiff, Nat.reduceBEq, reduceIte])
   refine ⟨?_, F2⟩
   first | trivial | (rw [if_neg (by simp)]; rfl)

theorem indexS_ok {h : H} {s : V} {L : List (List UInt8)} {k : List UInt8} (a : Ss g h s L) (hM : L.length < 2 ^ 62) :
  WF (E g) 103 [s, .str k] h fun v h' => (∃ n : Int, v = .int .i64 n ∧ decide (0 ≤ n) = L.contains k) ∧ h' = h := by
 refine WF.enter fn103 rfl ?_
 ((repeat refine WC.seq ?_); refine WC.run ?_)
 (try simp only [wk, wl, wx, reduceLT, reduceEqDiff, Nat.reduceBEq, reduceIte])
 ((repeat refine WC.seq ?_); refine WC.run ?_)
 (try simp only [wk, wl, wx, reduceLT, reduceEqDiff, Nat.reduceBEq, reduceIte, Sl.lenB a ty30 rfl])
 (repeat refine WC.seq ?_)
 refine WC.block ?_
 refine WC.while (fun m fr hh => ∃ ts i, fr = ⟨ts, 19, [], 103, none⟩ ∧ hh = h ∧ m = L.length - i ∧ i ≤ L.length ∧ ts.get 0 = some s ∧ ts.get 1 = some (.str k) ∧ ts.get 7 = some (.int .i64 L.length) ∧ ts.get 8 = some (.int .i64 i) ∧ (L.take i).contains k = false) ?_ ⟨_, 0, rfl, rfl, rfl, by omega, ?_, ?_, ?_, ?_, ?_⟩
 ·rintro m fr hh ⟨ts, i, rfl, rfl, rfl, hi, t0, t1, t7, t8, hno⟩
  ((repeat refine WC.seq ?_); refine WC.run ?_)
  (try simp only [wk, wl, wx, reduceLT, reduceEqDiff, Nat.reduceBEq, reduceIte, t7, t8])
  (repeat refine WC.seq ?_)
  by_cases hlt : i < L.length
  ·refine WC.cond (b := true) (by (try simp only [wk, wl, wx, reduceLT, reduceEqDiff, Nat.reduceBEq, reduceIte]); (try simp); (try omega)) (WC.skip ?_)
   (try simp only [wk, wl, wx, reduceLT, reduceEqDiff, Nat.reduceBEq, reduceIte])
   obtain ⟨p, p1, p2⟩ := a.at ty30 rfl ty9 rfl rfl hlt
   have p2 := p2 hh fun _ _ _ _ _ => rfl
   (repeat refine WC.seq ?_)
   refine WC.block ?_
   ((repeat refine WC.seq ?_); refine WC.run ?_)
   (try simp only [wk, wl, wx, reduceLT, reduceEqDiff, Nat.reduceBEq, reduceIte, t8])
   ((repeat refine WC.seq ?_); refine WC.run ?_)
   (try simp only [wk, wl, wx, reduceLT, reduceEqDiff, Nat.reduceBEq, reduceIte, t0, t1, p1, p2, bin_seql])
   (repeat refine WC.seq ?_)
   cases hb : (k == L[i]) with
   | true =>
    refine WC.cond (b := true) (by (try simp only [wk, wl, wx, reduceLT, reduceEqDiff, Nat.reduceBEq, reduceIte, hb]); (try simp); (try omega)) ?_
    ((repeat refine WC.seq ?_); refine WC.run ?_)
    (try simp only [wk, wl, wx, reduceLT, reduceEqDiff, Nat.reduceBEq, reduceIte])
    refine WC.ret ?_
    (try simp only [wk, wl, wx, reduceLT, reduceEqDiff, Nat.reduceBEq, reduceIte])
    refine ⟨⟨_, rfl, ?_⟩, by trivial⟩
    have : L.contains k = true := by
     rw [List.contains_iff_mem, eq_of_beq hb]
     exact List.getElem_mem hlt
    rw [this]; simp
   | false =>
    refine WC.cond (b := false) (by (try simp only [wk, wl, wx, reduceLT, reduceEqDiff, Nat.reduceBEq, reduceIte, hb]); (try simp); (try omega)) (WC.skip ?_)
    (try simp only [wk, wl, wx, reduceLT, reduceEqDiff, Nat.reduceBEq, reduceIte])
    ((repeat refine WC.seq ?_); refine WC.run ?_)
    (try simp only [wk, wl, wx, reduceLT, reduceEqDiff, Nat.reduceBEq, reduceIte, t8, bin_add])
    refine ⟨_, ?_, _, i + 1, rfl, by trivial, rfl, by omega, ?_⟩
    ·omega
    (try simp only [wk, wl, wx, reduceLT, reduceEqDiff, Nat.reduceBEq, reduceIte, t0, t1, t7])
    refine ⟨trivial, trivial, trivial, ?_, ?_⟩
    ·rw [wrap64 (by omega) (by omega)]; rfl
    ·rw [List.take_succ_eq_append_getElem hlt, List.contains_eq_any_beq, List.any_append, ← List.contains_eq_any_beq, hno]
     simp only [List.any_cons, List.any_nil, Bool.or_false, Bool.false_or, hb]
  ·refine WC.cond (b := false) (by (try simp only [wk, wl, wx, reduceLT, reduceEqDiff, Nat.reduceBEq, reduceIte]); (try simp); (try omega)) (WC.exit ?_)
   have : i = L.length := by omega
   subst this
   (try simp only [wk, wl, wx, reduceLT, reduceEqDiff, Nat.reduceBEq, reduceIte])
   ((repeat refine WC.seq ?_); refine WC.run ?_)
   (try simp only [wk, wl, wx, reduceLT, reduceEqDiff, Nat.reduceBEq, reduceIte])
   rw [List.take_length] at hno
   refine WC.ret ?_
   (try simp only [wk, wl, wx, reduceLT, reduceEqDiff, Nat.reduceBEq, reduceIte])
   exact ⟨⟨_, rfl, by rw [hno]; rfl⟩, by trivial⟩
 all_goals (try simp only [wk, wl, wx, reduceLT, reduceEqDiff, Nat.reduceBEq, reduceIte])
 all_goals simp
theorem containsS_ok {h : H} {s : V} {L : List (List UInt8)} {k : List UInt8} (a : Ss g h s L) (hM : L.length < 2 ^ 62) :
  WF (E g) 83 [s, .str k] h fun v h' => v = .bool (L.contains k) ∧ h' = h := by
 refine WF.enter fn83 rfl ?_
 ((repeat refine WC.seq ?_); refine WC.run ?_)
 (try simp only [wk, wl, wx, reduceLT, reduceEqDiff, Nat.reduceBEq, reduceIte])
 ((repeat refine WC.seq ?_); refine WC.run ?_)
 (try simp only [wk, wl, wx, reduceLT, reduceEqDiff, Nat.reduceBEq, reduceIte])
 refine (indexS_ok a hM).mono fun v h1 ⟨⟨n, e, hk⟩, f1⟩ => ?_
 subst e f1
 (try simp only [wk, wl, wx, reduceLT, reduceEqDiff, Nat.reduceBEq, reduceIte])
 (repeat refine WC.seq ?_)
 refine WC.ret ?_
 (try simp only [wk, wl, wx, reduceLT, reduceEqDiff, Nat.reduceBEq, reduceIte])
 exact ⟨by rw [hk], by trivial⟩
end Go.Proofs.OP
