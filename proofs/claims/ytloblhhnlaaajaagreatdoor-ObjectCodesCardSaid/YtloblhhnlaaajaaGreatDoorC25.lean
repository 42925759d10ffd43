/- Walks: Decode's closures. Printed by gen25.py. -/
import Derived.Test.YtloblhhnlaaajaaGreatDoorB13
import Derived.Test.YtloblhhnlaaajaaGreatDoorC23
set_option linter.unusedVariables false
set_option linter.unusedSimpArgs false
set_option linter.defProp false
set_option linter.unusedSimpArgs false
namespace Go.Proofs.OP
open Go Go.Ev
open Go.Proofs
open Nat (reduceLT reduceEqDiff)
variable {g : T (List V)}

theorem bin_and {E : Env} {h : H} {c : Bool} {ty : Nat} {k : IntKind} {a b : Int} : binV E h c .and ty (.int k a) (.int k b) = some (.int k (k.wrap (BitVec.ofInt k.bits a &&& BitVec.ofInt k.bits b).toNat)) := by
  simp only [binV, binOp, Op.intBits, pureVal, ne_eq, not_true_eq_false, if_false]; rfl
def bitT (n m : Int) : Bool := IntKind.i64.wrap (BitVec.ofInt IntKind.i64.bits n &&& BitVec.ofInt IntKind.i64.bits m).toNat != 0
def symR (s : RdS) : SymD × RdS := (⟨(bytR s).1, (numR (bytR s).2).1, (numR (numR (bytR s).2).2).1, bitT (numR (numR (numR (bytR s).2).2).2).1 1, bitT (numR (numR (numR (bytR s).2).2).2).1 2⟩, (numR (numR (numR (bytR s).2).2).2).2)
def relR (s : RdS) : RelD × RdS := (⟨(numR s).1, (numR (numR s).2).1, (numR (numR (numR s).2).2).1, (bytR (numR (numR (numR s).2).2).2).1, (numR (bytR (numR (numR (numR s).2).2).2).2).1⟩, (numR (bytR (numR (numR (numR s).2).2).2).2).2)
def adv {α : Type} (f : RdS → α × RdS) (s : RdS × List α) : RdS × List α := ((f s.1).2, s.2 ++ [(f s.1).1])

structure DB (hm : H) (n0 rb vb ob : Nat) : Prop where
  v : Has hm vb [.ptr rb 0]
  l1 : n0 ≤ rb
  l2 : rb < hm.next
  l3 : vb < hm.next
  l4 : ob < hm.next
  l5 : vb ≠ rb
  l6 : vb ≠ ob
  l7 : rb ≠ ob
  l8 : n0 ≤ ob
structure DI {α : Type} (g : T (List V)) (hm : H) (n0 N rb ob : Nat) (cells : V → List V) (e sz : Nat) (fl : List α → List V) (s : RdS × List α) (h : H) (sv : V) : Prop where
  rd : Rd g h (· < n0) rb s.1
  co : Has h ob (cells sv)
  bu : Buf (E g) h e sz sv s.2.length (fl s.2)
  nw : In (fun b => hm.next ≤ b ∧ b < h.next) sv
  fx : Fix (fun b => b < hm.next ∧ b ≠ rb ∧ b ≠ ob) hm h
  xs : s.1.xs.length ≤ N
  ln : s.2.length ≤ N + 1
  sm : s.1.bad = false → s.2.length + s.1.xs.length ≤ N
theorem DI.bad {α : Type} {hm : H} {n0 N rb ob : Nat} {cells : V → List V} {e sz : Nat} {fl : List α → List V} {s : RdS × List α} {h : H} (i : ∃ sv, DI g hm n0 N rb ob cells e sz fl s h sv) : ∃ sl, Has h rb [sl, .bool s.1.bad] := by
  obtain ⟨sv, i⟩ := i
  obtain ⟨bs, a, _⟩ := i.rd
  exact ⟨bs, a⟩
theorem numR_dec {s : RdS} (h : s.bad = false) : (numR s).2.bad = true ∨ (numR s).2.xs.length < s.xs.length := by
  unfold numR; split
  · exact .inl rfl
  · right; simp; omega
theorem numR_bad {s : RdS} (h : (numR s).2.bad = false) : s.bad = false ∧ (numR s).2.xs.length < s.xs.length := by
  unfold numR at *
  split at h
  · cases h
  · refine ⟨h, ?_⟩
    rename_i q
    rw [if_neg q]; simp; omega
theorem bytR_bad {s : RdS} (h : (bytR s).2.bad = false) : s.bad = false ∧ (bytR s).2.xs.length < s.xs.length := by
  unfold bytR at *
  split at h
  · cases h
  · rename_i q
    obtain ⟨h1, h2⟩ := numR_bad (s := s) h
    refine ⟨h1, ?_⟩
    rw [if_neg q]; simp; omega
theorem symR_bad {s : RdS} (h : (symR s).2.bad = false) : s.bad = false ∧ (symR s).2.xs.length < s.xs.length := by
  obtain ⟨a1, a2⟩ := numR_bad h
  obtain ⟨b1, b2⟩ := numR_bad a1
  obtain ⟨c1, c2⟩ := numR_bad b1
  obtain ⟨d1, d2⟩ := bytR_bad c1
  exact ⟨d1, by simp only [symR]; omega⟩
theorem relR_bad {s : RdS} (h : (relR s).2.bad = false) : s.bad = false ∧ (relR s).2.xs.length < s.xs.length := by
  obtain ⟨a1, a2⟩ := numR_bad h
  obtain ⟨b1, b2⟩ := bytR_bad a1
  obtain ⟨c1, c2⟩ := numR_bad b1
  obtain ⟨d1, d2⟩ := numR_bad c1
  obtain ⟨e1, e2⟩ := numR_bad d1
  exact ⟨e1, by simp only [relR]; omega⟩
theorem build95 {n : List UInt8} {a b : Int} : buildV (E g) 92 [(0, .str n), (1, i64 a), (2, i64 b)] = some (.agg [.str n, i64 a, i64 b, .bool false, .bool false]) := by
  simp only [buildV, ty92, fillAll, nth, sizeOf_of ty9, sizeOf_of ty3, sizeOf_of ty2, List.all_cons, List.all_nil, ty9, ty3, ty2, ty4, Option.isSome_some, Bool.and_true, Bool.not_true, cond_false]
  rfl
theorem build97 {n : List UInt8} {a b c d : Int} : buildV (E g) 93 [(0, i64 a), (1, i64 b), (2, i64 c), (3, .str n), (4, i64 d)] = some (.agg [i64 a, i64 b, i64 c, .str n, i64 d]) := by
  simp only [buildV, ty93, fillAll, nth, sizeOf_of ty9, sizeOf_of ty3, sizeOf_of ty2, List.all_cons, List.all_nil, ty9, ty3, ty2, Option.isSome_some, Bool.and_true, Bool.not_true, cond_false]
  rfl

set_option maxRecDepth 100000 in
set_option maxHeartbeats 8000000 in
theorem sym_ok {hm h : H} {n0 N rb vb ob : Nat} {nm : List UInt8} {cv dv : V} {s : RdS × List SymD} (d : DB hm n0 rb vb ob) (i : ∃ sv, DI g hm n0 N rb ob (fun sv => [.str nm, cv, dv, sv, .nils, .nils, .str []]) 92 5 (fun L => L.flatMap symV) s h sv) (hN : N < 2 ^ 39) (hb0 : s.1.bad = false) :
    WF (E g) 60 [.ptr vb 0, .ptr ob 0] h fun _ h' => ∃ sv, DI g hm n0 N rb ob (fun sv => [.str nm, cv, dv, sv, .nils, .nils, .str []]) 92 5 (fun L => L.flatMap symV) (adv symR s) h' sv := by
  obtain ⟨sv, r0, oA, buA, nw, fA, l0, ln, sm⟩ := i
  obtain ⟨vm, d1, d2, d3, d4, d5, d6, d7, d8⟩ := d
  have xA := fA.next
  have vA := vm.fix fA ⟨by omega, by omega, by omega⟩
  have v0 := vA
  have F0 := Fix.refl (fun b => b < h.next ∧ b ≠ rb) h
  have x0 : h.next ≤ h.next := Nat.le_refl _
  obtain ⟨h0, hh0⟩ : ∃ h0, h0 = h := ⟨h, rfl⟩
  refine WF.enter fn60 rfl ?_
  (repeat refine WC.seq ?_)
  refine WC.mono (Q := fun e fr hh => e = .normal ∧ ∃ ts q, fr = ⟨ts, 27, [], 60, none⟩ ∧ ts.get 0 = some (.ptr vb 0) ∧ ts.get 1 = some (.ptr ob 0) ∧ ts.get 2 = some (.ptr q 0) ∧ h.next ≤ q ∧ q < hh.next ∧ Has hh q [.str (bytR s.1).1, i64 (numR (bytR s.1).2).1, i64 (numR (numR (bytR s.1).2).2).1, .bool false, .bool false] ∧ Rd g hh (· < n0) rb (numR (numR (bytR s.1).2).2).2 ∧ Fix (fun b => b < h.next ∧ b ≠ rb) h hh) (WC.draw (plans := pl60_0) (by kernel_rfl) ?_) ?_
  · intro p hp
    simp only [pl60_0, List.mem_cons, List.not_mem_nil, or_false] at hp
    rcases hp with rfl | rfl | rfl | rfl
    · (try simp (maxSteps := 2000000) only [wk, wl, wx, reduceLT, reduceEqDiff, Nat.reduceBEq, reduceIte, wd, Chk, and_true, true_and, v0.at ty119 rfl])
      refine (rtext_ok r0 (by omega) (fun x hx => by omega) (by omega) (by omega)).mono fun v h1 ⟨e1, r1, f1⟩ => ?_
      subst e1
      have x1 := f1.next
      have l1 := bytR_le s.1
      have F1 : Fix (fun b => b < h.next ∧ b ≠ rb) h h1 := F0.trans (f1.sub fun b hb => ⟨by omega, hb.2⟩)
      have v1 := vA.fix F1 ⟨by omega, by omega⟩
      (try simp (maxSteps := 2000000) only [wk, wl, wx, reduceLT, reduceEqDiff, Nat.reduceBEq, reduceIte, wd, Chk, and_true, true_and, v1.at ty119 rfl, build95])
      refine (number_ok r1 (by omega) (fun x hx => by omega) (by omega) (by omega)).mono fun v h2 ⟨e2, r2, f2⟩ => ?_
      subst e2
      have x2 := f2.next
      have l2 := numR_le (bytR s.1).2
      have F2 : Fix (fun b => b < h.next ∧ b ≠ rb) h h2 := F1.trans (f2.sub fun b hb => ⟨by omega, hb.2⟩)
      have v2 := vA.fix F2 ⟨by omega, by omega⟩
      (try simp (maxSteps := 2000000) only [wk, wl, wx, reduceLT, reduceEqDiff, Nat.reduceBEq, reduceIte, wd, Chk, and_true, true_and, v2.at ty119 rfl, build95])
      refine (number_ok r2 (by omega) (fun x hx => by omega) (by omega) (by omega)).mono fun v h3 ⟨e3, r3, f3⟩ => ?_
      subst e3
      have x3 := f3.next
      have l3 := numR_le (numR (bytR s.1).2).2
      have F3 : Fix (fun b => b < h.next ∧ b ≠ rb) h h3 := F2.trans (f3.sub fun b hb => ⟨by omega, hb.2⟩)
      have v3 := vA.fix F3 ⟨by omega, by omega⟩
      (try simp (maxSteps := 2000000) only [wk, wl, wx, reduceLT, reduceEqDiff, Nat.reduceBEq, reduceIte, wd, Chk, and_true, true_and, v3.at ty119 rfl, build95])
      refine wop_alloc ty92 ?_
      intro h4 q4 n4 f4
      have x4 := f4.next
      have F4 : Fix (fun b => b < h.next ∧ b ≠ rb) h h4 := F3.trans (f4.sub fun b hb => by omega)
      have v4 := vA.fix F4 ⟨by omega, by omega⟩
      have r4 := r3.fix f4 (by omega) (fun b hb => by omega)
      (try simp (maxSteps := 2000000) only [wk, wl, wx, reduceLT, reduceEqDiff, Nat.reduceBEq, reduceIte, wd, Chk, and_true, true_and, v4.at ty119 rfl, build95])
      refine sat_store q4 ty92 rfl (Nat.le_refl 5) rfl ?_
      intro hs qs ns fs
      (try simp (maxSteps := 2000000) only [wk, wl, wx, reduceLT, reduceEqDiff, Nat.reduceBEq, reduceIte, wd, Chk, and_true, true_and])
      refine ⟨_, h3.next, rfl, ?_, ?_, ?_, by omega, by omega, qs, r4.fix fs (by omega) (fun b hb => by omega), F4.trans (fs.sub fun b hb => by omega)⟩
      all_goals (try simp only [wk, wl, wx, reduceLT, reduceEqDiff, Nat.reduceBEq, reduceIte])
    · (try simp (maxSteps := 2000000) only [wk, wl, wx, reduceLT, reduceEqDiff, Nat.reduceBEq, reduceIte, wd, Chk, and_true, true_and, v0.at ty119 rfl])
      refine (rtext_ok r0 (by omega) (fun x hx => by omega) (by omega) (by omega)).mono fun v h1 ⟨e1, r1, f1⟩ => ?_
      subst e1
      have x1 := f1.next
      have l1 := bytR_le s.1
      have F1 : Fix (fun b => b < h.next ∧ b ≠ rb) h h1 := F0.trans (f1.sub fun b hb => ⟨by omega, hb.2⟩)
      have v1 := vA.fix F1 ⟨by omega, by omega⟩
      (try simp (maxSteps := 2000000) only [wk, wl, wx, reduceLT, reduceEqDiff, Nat.reduceBEq, reduceIte, wd, Chk, and_true, true_and, v1.at ty119 rfl, build95])
      refine (number_ok r1 (by omega) (fun x hx => by omega) (by omega) (by omega)).mono fun v h2 ⟨e2, r2, f2⟩ => ?_
      subst e2
      have x2 := f2.next
      have l2 := numR_le (bytR s.1).2
      have F2 : Fix (fun b => b < h.next ∧ b ≠ rb) h h2 := F1.trans (f2.sub fun b hb => ⟨by omega, hb.2⟩)
      have v2 := vA.fix F2 ⟨by omega, by omega⟩
      (try simp (maxSteps := 2000000) only [wk, wl, wx, reduceLT, reduceEqDiff, Nat.reduceBEq, reduceIte, wd, Chk, and_true, true_and, v2.at ty119 rfl, build95])
      refine wop_alloc ty92 ?_
      intro h3 q3 n3 f3
      have x3 := f3.next
      have F3 : Fix (fun b => b < h.next ∧ b ≠ rb) h h3 := F2.trans (f3.sub fun b hb => by omega)
      have v3 := vA.fix F3 ⟨by omega, by omega⟩
      have r3 := r2.fix f3 (by omega) (fun b hb => by omega)
      (try simp (maxSteps := 2000000) only [wk, wl, wx, reduceLT, reduceEqDiff, Nat.reduceBEq, reduceIte, wd, Chk, and_true, true_and, v3.at ty119 rfl, build95])
      refine (number_ok r3 (by omega) (fun x hx => by omega) (by omega) (by omega)).mono fun v h4 ⟨e4, r4, f4⟩ => ?_
      subst e4
      have x4 := f4.next
      have l4 := numR_le (numR (bytR s.1).2).2
      have F4 : Fix (fun b => b < h.next ∧ b ≠ rb) h h4 := F3.trans (f4.sub fun b hb => ⟨by omega, hb.2⟩)
      have v4 := vA.fix F4 ⟨by omega, by omega⟩
      have q4 := q3.fix f4 ⟨by omega, by omega⟩
      (try simp (maxSteps := 2000000) only [wk, wl, wx, reduceLT, reduceEqDiff, Nat.reduceBEq, reduceIte, wd, Chk, and_true, true_and, v4.at ty119 rfl, build95])
      refine sat_store q4 ty92 rfl (Nat.le_refl 5) rfl ?_
      intro hs qs ns fs
      (try simp (maxSteps := 2000000) only [wk, wl, wx, reduceLT, reduceEqDiff, Nat.reduceBEq, reduceIte, wd, Chk, and_true, true_and])
      refine ⟨_, h2.next, rfl, ?_, ?_, ?_, by omega, by omega, qs, r4.fix fs (by omega) (fun b hb => by omega), F4.trans (fs.sub fun b hb => by omega)⟩
      all_goals (try simp only [wk, wl, wx, reduceLT, reduceEqDiff, Nat.reduceBEq, reduceIte])
    · (try simp (maxSteps := 2000000) only [wk, wl, wx, reduceLT, reduceEqDiff, Nat.reduceBEq, reduceIte, wd, Chk, and_true, true_and, v0.at ty119 rfl])
      refine (rtext_ok r0 (by omega) (fun x hx => by omega) (by omega) (by omega)).mono fun v h1 ⟨e1, r1, f1⟩ => ?_
      subst e1
      have x1 := f1.next
      have l1 := bytR_le s.1
      have F1 : Fix (fun b => b < h.next ∧ b ≠ rb) h h1 := F0.trans (f1.sub fun b hb => ⟨by omega, hb.2⟩)
      have v1 := vA.fix F1 ⟨by omega, by omega⟩
      (try simp (maxSteps := 2000000) only [wk, wl, wx, reduceLT, reduceEqDiff, Nat.reduceBEq, reduceIte, wd, Chk, and_true, true_and, v1.at ty119 rfl, build95])
      refine wop_alloc ty92 ?_
      intro h2 q2 n2 f2
      have x2 := f2.next
      have F2 : Fix (fun b => b < h.next ∧ b ≠ rb) h h2 := F1.trans (f2.sub fun b hb => by omega)
      have v2 := vA.fix F2 ⟨by omega, by omega⟩
      have r2 := r1.fix f2 (by omega) (fun b hb => by omega)
      (try simp (maxSteps := 2000000) only [wk, wl, wx, reduceLT, reduceEqDiff, Nat.reduceBEq, reduceIte, wd, Chk, and_true, true_and, v2.at ty119 rfl, build95])
      refine (number_ok r2 (by omega) (fun x hx => by omega) (by omega) (by omega)).mono fun v h3 ⟨e3, r3, f3⟩ => ?_
      subst e3
      have x3 := f3.next
      have l3 := numR_le (bytR s.1).2
      have F3 : Fix (fun b => b < h.next ∧ b ≠ rb) h h3 := F2.trans (f3.sub fun b hb => ⟨by omega, hb.2⟩)
      have v3 := vA.fix F3 ⟨by omega, by omega⟩
      have q3 := q2.fix f3 ⟨by omega, by omega⟩
      (try simp (maxSteps := 2000000) only [wk, wl, wx, reduceLT, reduceEqDiff, Nat.reduceBEq, reduceIte, wd, Chk, and_true, true_and, v3.at ty119 rfl, build95])
      refine (number_ok r3 (by omega) (fun x hx => by omega) (by omega) (by omega)).mono fun v h4 ⟨e4, r4, f4⟩ => ?_
      subst e4
      have x4 := f4.next
      have l4 := numR_le (numR (bytR s.1).2).2
      have F4 : Fix (fun b => b < h.next ∧ b ≠ rb) h h4 := F3.trans (f4.sub fun b hb => ⟨by omega, hb.2⟩)
      have v4 := vA.fix F4 ⟨by omega, by omega⟩
      have q4 := q3.fix f4 ⟨by omega, by omega⟩
      (try simp (maxSteps := 2000000) only [wk, wl, wx, reduceLT, reduceEqDiff, Nat.reduceBEq, reduceIte, wd, Chk, and_true, true_and, v4.at ty119 rfl, build95])
      refine sat_store q4 ty92 rfl (Nat.le_refl 5) rfl ?_
      intro hs qs ns fs
      (try simp (maxSteps := 2000000) only [wk, wl, wx, reduceLT, reduceEqDiff, Nat.reduceBEq, reduceIte, wd, Chk, and_true, true_and])
      refine ⟨_, h1.next, rfl, ?_, ?_, ?_, by omega, by omega, qs, r4.fix fs (by omega) (fun b hb => by omega), F4.trans (fs.sub fun b hb => by omega)⟩
      all_goals (try simp only [wk, wl, wx, reduceLT, reduceEqDiff, Nat.reduceBEq, reduceIte])
    · (try simp (maxSteps := 2000000) only [wk, wl, wx, reduceLT, reduceEqDiff, Nat.reduceBEq, reduceIte, wd, Chk, and_true, true_and, v0.at ty119 rfl])
      refine wop_alloc ty92 ?_
      intro h1 q1 n1 f1
      have x1 := f1.next
      have F1 : Fix (fun b => b < h.next ∧ b ≠ rb) h h1 := F0.trans (f1.sub fun b hb => by omega)
      have v1 := vA.fix F1 ⟨by omega, by omega⟩
      have r1 := r0.fix f1 (by omega) (fun b hb => by omega)
      (try simp (maxSteps := 2000000) only [wk, wl, wx, reduceLT, reduceEqDiff, Nat.reduceBEq, reduceIte, wd, Chk, and_true, true_and, v1.at ty119 rfl, build95])
      refine (rtext_ok r1 (by omega) (fun x hx => by omega) (by omega) (by omega)).mono fun v h2 ⟨e2, r2, f2⟩ => ?_
      subst e2
      have x2 := f2.next
      have l2 := bytR_le s.1
      have F2 : Fix (fun b => b < h.next ∧ b ≠ rb) h h2 := F1.trans (f2.sub fun b hb => ⟨by omega, hb.2⟩)
      have v2 := vA.fix F2 ⟨by omega, by omega⟩
      have q2 := q1.fix f2 ⟨by omega, by omega⟩
      (try simp (maxSteps := 2000000) only [wk, wl, wx, reduceLT, reduceEqDiff, Nat.reduceBEq, reduceIte, wd, Chk, and_true, true_and, v2.at ty119 rfl, build95])
      refine (number_ok r2 (by omega) (fun x hx => by omega) (by omega) (by omega)).mono fun v h3 ⟨e3, r3, f3⟩ => ?_
      subst e3
      have x3 := f3.next
      have l3 := numR_le (bytR s.1).2
      have F3 : Fix (fun b => b < h.next ∧ b ≠ rb) h h3 := F2.trans (f3.sub fun b hb => ⟨by omega, hb.2⟩)
      have v3 := vA.fix F3 ⟨by omega, by omega⟩
      have q3 := q2.fix f3 ⟨by omega, by omega⟩
      (try simp (maxSteps := 2000000) only [wk, wl, wx, reduceLT, reduceEqDiff, Nat.reduceBEq, reduceIte, wd, Chk, and_true, true_and, v3.at ty119 rfl, build95])
      refine (number_ok r3 (by omega) (fun x hx => by omega) (by omega) (by omega)).mono fun v h4 ⟨e4, r4, f4⟩ => ?_
      subst e4
      have x4 := f4.next
      have l4 := numR_le (numR (bytR s.1).2).2
      have F4 : Fix (fun b => b < h.next ∧ b ≠ rb) h h4 := F3.trans (f4.sub fun b hb => ⟨by omega, hb.2⟩)
      have v4 := vA.fix F4 ⟨by omega, by omega⟩
      have q4 := q3.fix f4 ⟨by omega, by omega⟩
      (try simp (maxSteps := 2000000) only [wk, wl, wx, reduceLT, reduceEqDiff, Nat.reduceBEq, reduceIte, wd, Chk, and_true, true_and, v4.at ty119 rfl, build95])
      refine sat_store q4 ty92 rfl (Nat.le_refl 5) rfl ?_
      intro hs qs ns fs
      (try simp (maxSteps := 2000000) only [wk, wl, wx, reduceLT, reduceEqDiff, Nat.reduceBEq, reduceIte, wd, Chk, and_true, true_and])
      refine ⟨_, h.next, rfl, ?_, ?_, ?_, by omega, by omega, qs, r4.fix fs (by omega) (fun b hb => by omega), F4.trans (fs.sub fun b hb => by omega)⟩
      all_goals (try simp only [wk, wl, wx, reduceLT, reduceEqDiff, Nat.reduceBEq, reduceIte])
  · rintro e fr h4 ⟨rfl, ts, q, rfl, t0, t1, t2, q1, q2, qb, r4, F4⟩
    have x4 := F4.next
    have v4 := vA.fix F4 ⟨by omega, by omega⟩
    (try simp only [wk, wl, wx, reduceLT, reduceEqDiff, Nat.reduceBEq, reduceIte])
    ((repeat refine WC.seq ?_); refine WC.run ?_)
    (try simp only [wk, wl, wx, reduceLT, reduceEqDiff, Nat.reduceBEq, reduceIte, t0, v4.at ty119 rfl])
    have l1 := bytR_le s.1
    have l2 := numR_le (bytR s.1).2
    have l3 := numR_le (numR (bytR s.1).2).2
    refine (number_ok r4 (by omega) (fun x hx => by omega) (by omega) (by omega)).mono fun v h5 ⟨e5, r5, f5⟩ => ?_
    subst e5
    have x5 := f5.next
    have l5 := numR_le (numR (numR (bytR s.1).2).2).2
    have q5 := qb.fix f5 ⟨by omega, by omega⟩
    have F5 : Fix (fun b => b < h.next ∧ b ≠ rb) h h5 := F4.trans (f5.sub fun b hb => ⟨by omega, hb.2⟩)
    (try simp only [wk, wl, wx, reduceLT, reduceEqDiff, Nat.reduceBEq, reduceIte])
    ((repeat refine WC.seq ?_); refine WC.run ?_)
    (try simp only [wk, wl, wx, reduceLT, reduceEqDiff, Nat.reduceBEq, reduceIte, t2, i64, bin_and, fa92_3, fa92_4, Nat.zero_add])
    refine sat_store q5 ty4 rfl (show 3 + 1 ≤ 5 from by decide) rfl ?_
    intro h6 q6 n6 f6
    (try simp only [wk, wl, wx, reduceLT, reduceEqDiff, Nat.reduceBEq, reduceIte, t2, fa92_4, Nat.zero_add])
    refine sat_store (o := 4) q6 ty4 rfl (show 4 + 1 ≤ 5 from by decide) rfl ?_
    intro h7 q7 n7 f7
    have q7 : Has h7 q (symV (symR s.1).1) := q7
    have F7 : Fix (fun b => b < h.next ∧ b ≠ rb) h h7 := ⟨by omega, fun b hb => by rw [f7.same b (by omega), f6.same b (by omega), F5.same b hb]⟩
    have r7 := (r5.fix f6 (by omega) (fun b hb => by omega)).fix f7 (by omega) (fun b hb => by omega)
    have o7 := oA.fix F7 ⟨by omega, by omega⟩
    have bu7 := buA.fix (nw.sub fun b hb => ⟨by omega, by omega⟩) F7
    have l7 : loadP (E g) h7 92 (.ptr q 0) = some (.agg (symV (symR s.1).1)) := q7.agg ty92 rfl (show 0 + 5 ≤ (symV (symR s.1).1).length from Nat.le_refl 5)
    (try simp only [wk, wl, wx, reduceLT, reduceEqDiff, Nat.reduceBEq, reduceIte])
    ((repeat refine WC.seq ?_); refine WC.run ?_)
    (try simp only [wk, wl, wx, reduceLT, reduceEqDiff, Nat.reduceBEq, reduceIte, t1, t2, fa35_3, Nat.zero_add, o7.at ty32 rfl, l7])
    refine sat_buildSlice (cs := symV (symR s.1).1) ty32 rfl ty92 rfl (by decide) (by decide) (fill5 (symV_length _)) rfl ?_
    intro h8 b8 n8 f8
    have o8 := o7.fix f8 (by omega)
    have bu8 := bu7.fix (nw.sub fun b hb => by omega) f8
    (try simp only [wk, wl, wx, reduceLT, reduceEqDiff, Nat.reduceBEq, reduceIte])
    refine sat_grow bu8 (nw.sub fun b hb => by omega) ty32 rfl ty32 (.inl ⟨_, rfl⟩) ty92 rfl (by decide) (by decide) b8.sl.len b8.sl.cells (by rfl) (symV_one _) (by simp; omega) ?_
    intro sw h9 g9
    have x9 := g9.fix.next
    have o9 := o8.fix g9.fix ⟨by omega, fun o m cc e => by have := nw _ _ _ _ e; omega⟩
    have w9 : In (fun b => hm.next ≤ b ∧ b < h9.next) sw := fun b o n c e => ⟨by
      rcases g9.own _ _ _ _ e with q | ⟨o, k, c, q⟩
      · omega
      · exact (nw _ _ _ _ q).1, g9.low _ _ _ _ e⟩
    (try simp only [wk, wl, wx, reduceLT, reduceEqDiff, Nat.reduceBEq, reduceIte, t1, fa35_3, Nat.zero_add])
    refine sat_store o9 ty32 (by rw [g9.buf.sl.one.1]; rfl) (by simp) (by rw [g9.buf.sl.one.1]; simp [g9.buf.sl.one.2]) ?_
    intro hz oz nz fz
    rw [g9.buf.sl.one.1] at oz
    (try simp only [wk, wl, wx, reduceLT, reduceEqDiff, Nat.reduceBEq, reduceIte])
    refine ⟨sw, ⟨?_, oz, ?_, w9.sub fun b hb => by omega, ⟨by omega, fun b hb => ?_⟩, ?_, ?_, ?_⟩⟩
    · exact ((r7.fix f8 (by omega) (fun b hb => by omega)).fix g9.fix ⟨by omega, fun o m cc e => by have := nw _ _ _ _ e; omega⟩ (fun b hb => ⟨by omega, fun o m cc e => by have := nw _ _ _ _ e; omega⟩)).fix fz (by omega) (fun b hb => by omega)
    · have := g9.buf.fix (K := (· ≠ ob)) (w9.sub fun b hb => by omega) fz
      simpa [adv, List.flatMap_append] using this
    · rw [fz.same b (by omega), g9.fix.same b ⟨by omega, fun o m cc e => by have := nw _ _ _ _ e; omega⟩, f8.same b (by omega), F7.same b ⟨by omega, by omega⟩, fA.same b hb]
    · show (numR (numR (numR (bytR s.1).2).2).2).2.xs.length ≤ N; omega
    · have := sm hb0; simp [adv]; omega
    · intro hb
      have h1 := (symR_bad (s := s.1) hb).2
      have := sm hb0
      simp only [adv, List.length_append, List.length_cons, List.length_nil]; omega
end Go.Proofs.OP

set_option linter.unusedSimpArgs false
namespace Go.Proofs.OP
open Go Go.Ev
open Go.Proofs
open Nat (reduceLT reduceEqDiff)
variable {g : T (List V)}

set_option maxRecDepth 100000 in
set_option maxHeartbeats 8000000 in
theorem rel_ok {hm h : H} {n0 N rb vb ob : Nat} {nm : List UInt8} {cv dv s1 : V} {s : RdS × List RelD} (d : DB hm n0 rb vb ob) (i : ∃ sv, DI g hm n0 N rb ob (fun sv => [.str nm, cv, dv, s1, sv, .nils, .str []]) 93 5 (fun L => L.flatMap relV) s h sv) (hN : N < 2 ^ 39) (hb0 : s.1.bad = false) :
    WF (E g) 62 [.ptr ob 0, .ptr vb 0] h fun _ h' => ∃ sv, DI g hm n0 N rb ob (fun sv => [.str nm, cv, dv, s1, sv, .nils, .str []]) 93 5 (fun L => L.flatMap relV) (adv relR s) h' sv := by
  obtain ⟨sv, r0, oA, buA, nw, fA, l0, ln, sm⟩ := i
  obtain ⟨vm, d1, d2, d3, d4, d5, d6, d7, d8⟩ := d
  have xA := fA.next
  have vA := vm.fix fA ⟨by omega, by omega, by omega⟩
  have v0 := vA
  have o0 := oA
  have F0 := Fix.refl (fun b => b < h.next ∧ b ≠ rb) h
  refine WF.enter fn62 rfl ?_
  ((repeat refine WC.seq ?_); refine WC.draw (plans := pl62_0) (by kernel_rfl) ?_; simp only [pl62_0, List.mem_cons, List.not_mem_nil, or_false, forall_eq_or_imp, forall_eq])
  (try simp (maxSteps := 2000000) only [wk, wl, wx, reduceLT, reduceEqDiff, Nat.reduceBEq, reduceIte, wd, Chk, and_true, true_and, fa35_4, Nat.zero_add, o0.at ty33 rfl, v0.at ty119 rfl, build97])
  refine (number_ok r0 (by omega) (fun x hx => by omega) (by omega) (by omega)).mono fun v h1 ⟨e1, r1, f1⟩ => ?_
  subst e1
  have x1 := f1.next
  have l1 := numR_le s.1
  have F1 : Fix (fun b => b < h.next ∧ b ≠ rb) h h1 := F0.trans (f1.sub fun b hb => ⟨by omega, hb.2⟩)
  have v1 := vA.fix F1 ⟨by omega, by omega⟩
  have o1 := oA.fix F1 ⟨by omega, by omega⟩
  (try simp (maxSteps := 2000000) only [wk, wl, wx, reduceLT, reduceEqDiff, Nat.reduceBEq, reduceIte, wd, Chk, and_true, true_and, fa35_4, Nat.zero_add, o1.at ty33 rfl, v1.at ty119 rfl, build97])
  refine (number_ok r1 (by omega) (fun x hx => by omega) (by omega) (by omega)).mono fun v h2 ⟨e2, r2, f2⟩ => ?_
  subst e2
  have x2 := f2.next
  have l2 := numR_le (numR s.1).2
  have F2 : Fix (fun b => b < h.next ∧ b ≠ rb) h h2 := F1.trans (f2.sub fun b hb => ⟨by omega, hb.2⟩)
  have v2 := vA.fix F2 ⟨by omega, by omega⟩
  have o2 := oA.fix F2 ⟨by omega, by omega⟩
  (try simp (maxSteps := 2000000) only [wk, wl, wx, reduceLT, reduceEqDiff, Nat.reduceBEq, reduceIte, wd, Chk, and_true, true_and, fa35_4, Nat.zero_add, o2.at ty33 rfl, v2.at ty119 rfl, build97])
  refine (number_ok r2 (by omega) (fun x hx => by omega) (by omega) (by omega)).mono fun v h3 ⟨e3, r3, f3⟩ => ?_
  subst e3
  have x3 := f3.next
  have l3 := numR_le (numR (numR s.1).2).2
  have F3 : Fix (fun b => b < h.next ∧ b ≠ rb) h h3 := F2.trans (f3.sub fun b hb => ⟨by omega, hb.2⟩)
  have v3 := vA.fix F3 ⟨by omega, by omega⟩
  have o3 := oA.fix F3 ⟨by omega, by omega⟩
  (try simp (maxSteps := 2000000) only [wk, wl, wx, reduceLT, reduceEqDiff, Nat.reduceBEq, reduceIte, wd, Chk, and_true, true_and, fa35_4, Nat.zero_add, o3.at ty33 rfl, v3.at ty119 rfl, build97])
  refine (rtext_ok r3 (by omega) (fun x hx => by omega) (by omega) (by omega)).mono fun v h4 ⟨e4, r4, f4⟩ => ?_
  subst e4
  have x4 := f4.next
  have l4 := bytR_le (numR (numR (numR s.1).2).2).2
  have F4 : Fix (fun b => b < h.next ∧ b ≠ rb) h h4 := F3.trans (f4.sub fun b hb => ⟨by omega, hb.2⟩)
  have v4 := vA.fix F4 ⟨by omega, by omega⟩
  have o4 := oA.fix F4 ⟨by omega, by omega⟩
  (try simp (maxSteps := 2000000) only [wk, wl, wx, reduceLT, reduceEqDiff, Nat.reduceBEq, reduceIte, wd, Chk, and_true, true_and, fa35_4, Nat.zero_add, o4.at ty33 rfl, v4.at ty119 rfl, build97])
  refine (number_ok r4 (by omega) (fun x hx => by omega) (by omega) (by omega)).mono fun v h5 ⟨e5, r5, f5⟩ => ?_
  subst e5
  have x5 := f5.next
  have l5 := numR_le (bytR (numR (numR (numR s.1).2).2).2).2
  have F5 : Fix (fun b => b < h.next ∧ b ≠ rb) h h5 := F4.trans (f5.sub fun b hb => ⟨by omega, hb.2⟩)
  have v5 := vA.fix F5 ⟨by omega, by omega⟩
  have o5 := oA.fix F5 ⟨by omega, by omega⟩
  (try simp (maxSteps := 2000000) only [wk, wl, wx, reduceLT, reduceEqDiff, Nat.reduceBEq, reduceIte, wd, Chk, and_true, true_and, fa35_4, Nat.zero_add, o5.at ty33 rfl, v5.at ty119 rfl, build97])
  refine sat_buildSlice (cs := relV (relR s.1).1) ty33 rfl ty93 rfl (by decide) (by decide) (fill5 (relV_length (relR s.1).1)) rfl ?_
  intro h8 b8 n8 f8
  have o8 := o5.fix f8 (by omega)
  have v8 := v5.fix f8 (by omega)
  have bu8 := (buA.fix (nw.sub fun b hb => ⟨by omega, by omega⟩) F5).fix (nw.sub fun b hb => by omega) f8
  (try simp (maxSteps := 2000000) only [wk, wl, wx, reduceLT, reduceEqDiff, Nat.reduceBEq, reduceIte, wd, Chk, and_true, true_and, fa35_4, Nat.zero_add, o8.at ty33 rfl, v8.at ty119 rfl, build97])
  refine sat_grow bu8 (nw.sub fun b hb => by omega) ty33 rfl ty33 (.inl ⟨_, rfl⟩) ty93 rfl (by decide) (by decide) b8.sl.len b8.sl.cells (by rfl) (relV_one _) (by simp; omega) ?_
  intro sw h9 g9
  have x9 := g9.fix.next
  have o9 := o8.fix g9.fix ⟨by omega, fun o m cc e => by have := nw _ _ _ _ e; omega⟩
  have w9 : In (fun b => hm.next ≤ b ∧ b < h9.next) sw := fun b o n c e => ⟨by
    rcases g9.own _ _ _ _ e with q | ⟨o, k, c, q⟩
    · omega
    · exact (nw _ _ _ _ q).1, g9.low _ _ _ _ e⟩
  (try simp (maxSteps := 2000000) only [wk, wl, wx, reduceLT, reduceEqDiff, Nat.reduceBEq, reduceIte, wd, Chk, and_true, true_and, fa35_4, Nat.zero_add])
  refine sat_store o9 ty33 (by rw [g9.buf.sl.one.1]; rfl) (by simp) (by rw [g9.buf.sl.one.1]; simp [g9.buf.sl.one.2]) ?_
  intro hz oz nz fz
  rw [g9.buf.sl.one.1] at oz
  (try simp (maxSteps := 2000000) only [wk, wl, wx, reduceLT, reduceEqDiff, Nat.reduceBEq, reduceIte, wd, Chk, and_true, true_and])
  refine ⟨sw, ⟨?_, oz, ?_, w9.sub fun b hb => by omega, ⟨by omega, fun b hb => ?_⟩, ?_, ?_, ?_⟩⟩
  · exact ((r5.fix f8 (by omega) (fun b hb => by omega)).fix g9.fix ⟨by omega, fun o m cc e => by have := nw _ _ _ _ e; omega⟩ (fun b hb => ⟨by omega, fun o m cc e => by have := nw _ _ _ _ e; omega⟩)).fix fz (by omega) (fun b hb => by omega)
  · have := g9.buf.fix (K := (· ≠ ob)) (w9.sub fun b hb => by omega) fz
    simpa [adv, List.flatMap_append] using this
  · rw [fz.same b (by omega), g9.fix.same b ⟨by omega, fun o m cc e => by have := nw _ _ _ _ e; omega⟩, f8.same b (by omega), F5.same b ⟨by omega, by omega⟩, fA.same b hb]
  · show (relR s.1).2.xs.length ≤ N; (try simp only [relR]); omega
  · have := sm hb0; simp [adv]; omega
  · intro hb
    have h1 := (relR_bad (s := s.1) hb).2
    have := sm hb0
    simp only [adv, List.length_append, List.length_cons, List.length_nil]; omega

set_option maxRecDepth 100000 in
set_option maxHeartbeats 8000000 in
theorem need_ok {hm h : H} {n0 N rb vb ob : Nat} {nm : List UInt8} {cv dv s1 s2 : V} {s : RdS × List (List UInt8)} (d : DB hm n0 rb vb ob) (i : ∃ sv, DI g hm n0 N rb ob (fun sv => [.str nm, cv, dv, s1, s2, sv, .str []]) 9 1 (fun L => L.map V.str) s h sv) (hN : N < 2 ^ 39) (hb0 : s.1.bad = false) :
    WF (E g) 63 [.ptr ob 0, .ptr vb 0] h fun _ h' => ∃ sv, DI g hm n0 N rb ob (fun sv => [.str nm, cv, dv, s1, s2, sv, .str []]) 9 1 (fun L => L.map V.str) (adv bytR s) h' sv := by
  obtain ⟨sv, r0, oA, buA, nw, fA, l0, ln, sm⟩ := i
  obtain ⟨vm, d1, d2, d3, d4, d5, d6, d7, d8⟩ := d
  have xA := fA.next
  have vA := vm.fix fA ⟨by omega, by omega, by omega⟩
  have v0 := vA
  have o0 := oA
  have F0 := Fix.refl (fun b => b < h.next ∧ b ≠ rb) h
  refine WF.enter fn63 rfl ?_
  ((repeat refine WC.seq ?_); refine WC.draw (plans := pl63_0) (by kernel_rfl) ?_; simp only [pl63_0, List.mem_cons, List.not_mem_nil, or_false, forall_eq_or_imp, forall_eq])
  (try simp (maxSteps := 2000000) only [wk, wl, wx, reduceLT, reduceEqDiff, Nat.reduceBEq, reduceIte, wd, Chk, and_true, true_and, fa35_5, Nat.zero_add, o0.at ty25 rfl, v0.at ty119 rfl])
  refine (rtext_ok r0 (by omega) (fun x hx => by omega) (by omega) (by omega)).mono fun v h1 ⟨e1, r1, f1⟩ => ?_
  subst e1
  have x1 := f1.next
  have l1 := bytR_le s.1
  have F1 : Fix (fun b => b < h.next ∧ b ≠ rb) h h1 := F0.trans (f1.sub fun b hb => ⟨by omega, hb.2⟩)
  have v1 := vA.fix F1 ⟨by omega, by omega⟩
  have o1 := oA.fix F1 ⟨by omega, by omega⟩
  (try simp (maxSteps := 2000000) only [wk, wl, wx, reduceLT, reduceEqDiff, Nat.reduceBEq, reduceIte, wd, Chk, and_true, true_and, fa35_5, Nat.zero_add, o1.at ty25 rfl, v1.at ty119 rfl])
  refine sat_slice1 ty25 rfl ty9 rfl rfl rfl ?_
  intro h8 b8 n8 f8
  have o8 := o1.fix f8 (by omega)
  have v8 := v1.fix f8 (by omega)
  have bu8 := (buA.fix (nw.sub fun b hb => ⟨by omega, by omega⟩) F1).fix (nw.sub fun b hb => by omega) f8
  (try simp (maxSteps := 2000000) only [wk, wl, wx, reduceLT, reduceEqDiff, Nat.reduceBEq, reduceIte, wd, Chk, and_true, true_and, fa35_5, Nat.zero_add, o8.at ty25 rfl, v8.at ty119 rfl])
  refine sat_grow bu8 (nw.sub fun b hb => by omega) ty25 rfl ty25 (.inl ⟨_, rfl⟩) ty9 rfl (by decide) (by decide) b8.sl.len b8.sl.cells (by rfl) (by rfl) (by simp; omega) ?_
  intro sw h9 g9
  have x9 := g9.fix.next
  have o9 := o8.fix g9.fix ⟨by omega, fun o m cc e => by have := nw _ _ _ _ e; omega⟩
  have w9 : In (fun b => hm.next ≤ b ∧ b < h9.next) sw := fun b o n c e => ⟨by
    rcases g9.own _ _ _ _ e with q | ⟨o, k, c, q⟩
    · omega
    · exact (nw _ _ _ _ q).1, g9.low _ _ _ _ e⟩
  (try simp (maxSteps := 2000000) only [wk, wl, wx, reduceLT, reduceEqDiff, Nat.reduceBEq, reduceIte, wd, Chk, and_true, true_and, fa35_5, Nat.zero_add])
  refine sat_store o9 ty25 (by rw [g9.buf.sl.one.1]; rfl) (by simp) (by rw [g9.buf.sl.one.1]; simp [g9.buf.sl.one.2]) ?_
  intro hz oz nz fz
  rw [g9.buf.sl.one.1] at oz
  (try simp (maxSteps := 2000000) only [wk, wl, wx, reduceLT, reduceEqDiff, Nat.reduceBEq, reduceIte, wd, Chk, and_true, true_and])
  refine ⟨sw, ⟨?_, oz, ?_, w9.sub fun b hb => by omega, ⟨by omega, fun b hb => ?_⟩, ?_, ?_, ?_⟩⟩
  · exact ((r1.fix f8 (by omega) (fun b hb => by omega)).fix g9.fix ⟨by omega, fun o m cc e => by have := nw _ _ _ _ e; omega⟩ (fun b hb => ⟨by omega, fun o m cc e => by have := nw _ _ _ _ e; omega⟩)).fix fz (by omega) (fun b hb => by omega)
  · have := g9.buf.fix (K := (· ≠ ob)) (w9.sub fun b hb => by omega) fz
    simpa [adv, List.flatMap_append] using this
  · rw [fz.same b (by omega), g9.fix.same b ⟨by omega, fun o m cc e => by have := nw _ _ _ _ e; omega⟩, f8.same b (by omega), F1.same b ⟨by omega, by omega⟩, fA.same b hb]
  · show (bytR s.1).2.xs.length ≤ N; (try simp only [relR]); omega
  · have := sm hb0; simp [adv]; omega
  · intro hb
    have h1 := (bytR_bad (s := s.1) hb).2
    have := sm hb0
    simp only [adv, List.length_append, List.length_cons, List.length_nil]; omega

end Go.Proofs.OP
