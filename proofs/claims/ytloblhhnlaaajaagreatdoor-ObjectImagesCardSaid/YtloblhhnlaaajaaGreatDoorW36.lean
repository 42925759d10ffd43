/- Walks: Read's closures. Printed by genr8.py. -/
import Derived.Test.YtloblhhnlaaajaaGreatDoorW15
import Derived.Test.YtloblhhnlaaajaaGreatDoorW22
import Derived.Test.YtloblhhnlaaajaaGreatDoorW34
set_option linter.unusedVariables false
set_option linter.unusedSimpArgs false
set_option linter.defProp false
set_option linter.unusedSimpArgs false
namespace Go.Proofs.OP
open Go Go.Ev
open Go.Proofs
open Nat (reduceLT reduceEqDiff)
variable {g : T (List V)}

def expR (s : RdS) : ExpD × RdS := (⟨(bytR s).1, (numR (bytR s).2).1⟩, (numR (bytR s).2).2)
def slotR (s : RdS) : SlotD × RdS := (⟨(bytR s).1, (numR (bytR s).2).1, (numR (numR (bytR s).2).2).1⟩, (numR (numR (bytR s).2).2).2)
theorem expR_bad {s : RdS} (h : (expR s).2.bad = false) : s.bad = false ∧ (expR s).2.xs.length < s.xs.length := by
  obtain ⟨a1, a2⟩ := numR_bad h
  obtain ⟨b1, b2⟩ := bytR_bad a1
  exact ⟨b1, by simp only [expR]; omega⟩
theorem slotR_bad {s : RdS} (h : (slotR s).2.bad = false) : s.bad = false ∧ (slotR s).2.xs.length < s.xs.length := by
  obtain ⟨a1, a2⟩ := numR_bad h
  obtain ⟨b1, b2⟩ := numR_bad a1
  obtain ⟨c1, c2⟩ := bytR_bad b1
  exact ⟨c1, by simp only [slotR]; omega⟩
theorem build137 {n : List UInt8} {a : Int} : buildV (E g) 137 [(0, .str n), (1, i64 a)] = some (.agg [.str n, i64 a]) := by
  simp only [buildV, ty137, fillAll, nth, sizeOf_of ty9, sizeOf_of ty2, List.all_cons, List.all_nil, ty9, ty2, Option.isSome_some, Bool.and_true, Bool.not_true, cond_false]
  rfl
theorem build138 {n : List UInt8} {a b : Int} : buildV (E g) 138 [(0, .str n), (1, i64 a), (2, i64 b)] = some (.agg [.str n, i64 a, i64 b]) := by
  simp only [buildV, ty138, fillAll, nth, sizeOf_of ty9, sizeOf_of ty2, List.all_cons, List.all_nil, ty9, ty2, Option.isSome_some, Bool.and_true, Bool.not_true, cond_false]
  rfl

set_option maxRecDepth 100000 in
set_option maxHeartbeats 8000000 in
theorem rexp_ok {hm h : H} {n0 N rb vb ob : Nat} {ba co en : Int} {bv : V} {s : RdS × List ExpD} (d : DB hm n0 rb vb ob) (i : ∃ sv, DI g hm n0 N rb ob (fun sv => [i64 ba, bv, i64 co, i64 en, sv, .nils, .nils]) 137 2 (fun L => L.flatMap expV) s h sv) (hN : N < 2 ^ 39) (hb0 : s.1.bad = false) :
    WF (E g) 72 [.ptr ob 0, .ptr vb 0] h fun _ h' => ∃ sv, DI g hm n0 N rb ob (fun sv => [i64 ba, bv, i64 co, i64 en, sv, .nils, .nils]) 137 2 (fun L => L.flatMap expV) (adv expR s) h' sv := by
  obtain ⟨sv, r0, oA, buA, nw, fA, l0, ln, sm⟩ := i
  obtain ⟨vm, d1, d2, d3, d4, d5, d6, d7, d8⟩ := d
  have xA := fA.next
  have vA := vm.fix fA ⟨by omega, by omega, by omega⟩
  have v0 := vA
  have o0 := oA
  have F0 := Fix.refl (fun b => b < h.next ∧ b ≠ rb) h
  refine WF.enter fn72 rfl ?_
  ((repeat refine WC.seq ?_); refine WC.draw (plans := pl72_0) (by kernel_rfl) ?_; simp only [pl72_0, List.mem_cons, List.not_mem_nil, or_false, forall_eq_or_imp, forall_eq])
  (try simp (maxSteps := 2000000) only [wk, wl, wx, reduceLT, reduceEqDiff, Nat.reduceBEq, reduceIte, wd, Chk, and_true, true_and, fa56_4, Nat.zero_add, o0.at ty53 rfl, v0.at ty119 rfl, build137])
  refine (rtext_ok r0 (by omega) (fun x hx => by omega) (by omega) (by omega)).mono fun v h1 ⟨e1, r1, f1⟩ => ?_
  subst e1
  have x1 := f1.next
  have l1 := bytR_le s.1
  have F1 : Fix (fun b => b < h.next ∧ b ≠ rb) h h1 := F0.trans (f1.sub fun b hb => ⟨by omega, hb.2⟩)
  have v1 := vA.fix F1 ⟨by omega, by omega⟩
  have o1 := oA.fix F1 ⟨by omega, by omega⟩
  (try simp (maxSteps := 2000000) only [wk, wl, wx, reduceLT, reduceEqDiff, Nat.reduceBEq, reduceIte, wd, Chk, and_true, true_and, fa56_4, Nat.zero_add, o1.at ty53 rfl, v1.at ty119 rfl, build137])
  refine (number_ok r1 (by omega) (fun x hx => by omega) (by omega) (by omega)).mono fun v h2 ⟨e2, r2, f2⟩ => ?_
  subst e2
  have x2 := f2.next
  have l2 := numR_le (bytR s.1).2
  have F2 : Fix (fun b => b < h.next ∧ b ≠ rb) h h2 := F1.trans (f2.sub fun b hb => ⟨by omega, hb.2⟩)
  have v2 := vA.fix F2 ⟨by omega, by omega⟩
  have o2 := oA.fix F2 ⟨by omega, by omega⟩
  (try simp (maxSteps := 2000000) only [wk, wl, wx, reduceLT, reduceEqDiff, Nat.reduceBEq, reduceIte, wd, Chk, and_true, true_and, fa56_4, Nat.zero_add, o2.at ty53 rfl, v2.at ty119 rfl, build137])
  refine sat_buildSlice (cs := expV (expR s.1).1) ty53 rfl ty137 rfl (by decide) (by decide) (fill2 (expV_length (expR s.1).1)) rfl ?_
  intro h8 b8 n8 f8
  have o8 := o2.fix f8 (by omega)
  have v8 := v2.fix f8 (by omega)
  have bu8 := (buA.fix (nw.sub fun b hb => ⟨by omega, by omega⟩) F2).fix (nw.sub fun b hb => by omega) f8
  (try simp (maxSteps := 2000000) only [wk, wl, wx, reduceLT, reduceEqDiff, Nat.reduceBEq, reduceIte, wd, Chk, and_true, true_and, fa56_4, Nat.zero_add, o8.at ty53 rfl, v8.at ty119 rfl, build137])
  refine sat_grow bu8 (nw.sub fun b hb => by omega) ty53 rfl ty53 (.inl ⟨_, rfl⟩) ty137 rfl (by decide) (by decide) b8.sl.len b8.sl.cells (by rfl) (expV_one _) (by simp; omega) ?_
  intro sw h9 g9
  have x9 := g9.fix.next
  have o9 := o8.fix g9.fix ⟨by omega, fun o m cc e => by have := nw _ _ _ _ e; omega⟩
  have w9 : In (fun b => hm.next ≤ b ∧ b < h9.next) sw := fun b o n c e => ⟨by
    rcases g9.own _ _ _ _ e with q | ⟨o, k, c, q⟩
    · omega
    · exact (nw _ _ _ _ q).1, g9.low _ _ _ _ e⟩
  (try simp (maxSteps := 2000000) only [wk, wl, wx, reduceLT, reduceEqDiff, Nat.reduceBEq, reduceIte, wd, Chk, and_true, true_and, fa56_4, Nat.zero_add])
  refine sat_store o9 ty53 (by rw [g9.buf.sl.one.1]; rfl) (by simp) (by rw [g9.buf.sl.one.1]; simp [g9.buf.sl.one.2]) ?_
  intro hz oz nz fz
  rw [g9.buf.sl.one.1] at oz
  (try simp (maxSteps := 2000000) only [wk, wl, wx, reduceLT, reduceEqDiff, Nat.reduceBEq, reduceIte, wd, Chk, and_true, true_and])
  refine ⟨sw, ⟨?_, oz, ?_, w9.sub fun b hb => by omega, ⟨by omega, fun b hb => ?_⟩, ?_, ?_, ?_⟩⟩
  · exact ((r2.fix f8 (by omega) (fun b hb => by omega)).fix g9.fix ⟨by omega, fun o m cc e => by have := nw _ _ _ _ e; omega⟩ (fun b hb => ⟨by omega, fun o m cc e => by have := nw _ _ _ _ e; omega⟩)).fix fz (by omega) (fun b hb => by omega)
  · have := g9.buf.fix (K := (· ≠ ob)) (w9.sub fun b hb => by omega) fz
    simpa [adv, List.flatMap_append] using this
  · rw [fz.same b (by omega), g9.fix.same b ⟨by omega, fun o m cc e => by have := nw _ _ _ _ e; omega⟩, f8.same b (by omega), F2.same b ⟨by omega, by omega⟩, fA.same b hb]
  · show (expR s.1).2.xs.length ≤ N; (try simp only [expR, slotR]); omega
  · have := sm hb0; simp [adv]; omega
  · intro hb
    have h1 := (expR_bad (s := s.1) hb).2
    have := sm hb0
    simp only [adv, List.length_append, List.length_cons, List.length_nil]; omega

set_option maxRecDepth 100000 in
set_option maxHeartbeats 8000000 in
theorem rslot_ok {hm h : H} {n0 N rb vb ob : Nat} {ba co en : Int} {bv s1 : V} {s : RdS × List SlotD} (d : DB hm n0 rb vb ob) (i : ∃ sv, DI g hm n0 N rb ob (fun sv => [i64 ba, bv, i64 co, i64 en, s1, sv, .nils]) 138 3 (fun L => L.flatMap slotV) s h sv) (hN : N < 2 ^ 39) (hb0 : s.1.bad = false) :
    WF (E g) 73 [.ptr ob 0, .ptr vb 0] h fun _ h' => ∃ sv, DI g hm n0 N rb ob (fun sv => [i64 ba, bv, i64 co, i64 en, s1, sv, .nils]) 138 3 (fun L => L.flatMap slotV) (adv slotR s) h' sv := by
  obtain ⟨sv, r0, oA, buA, nw, fA, l0, ln, sm⟩ := i
  obtain ⟨vm, d1, d2, d3, d4, d5, d6, d7, d8⟩ := d
  have xA := fA.next
  have vA := vm.fix fA ⟨by omega, by omega, by omega⟩
  have v0 := vA
  have o0 := oA
  have F0 := Fix.refl (fun b => b < h.next ∧ b ≠ rb) h
  refine WF.enter fn73 rfl ?_
  ((repeat refine WC.seq ?_); refine WC.draw (plans := pl73_0) (by kernel_rfl) ?_; simp only [pl73_0, List.mem_cons, List.not_mem_nil, or_false, forall_eq_or_imp, forall_eq])
  (try simp (maxSteps := 2000000) only [wk, wl, wx, reduceLT, reduceEqDiff, Nat.reduceBEq, reduceIte, wd, Chk, and_true, true_and, fa56_5, Nat.zero_add, o0.at ty54 rfl, v0.at ty119 rfl, build138])
  refine (rtext_ok r0 (by omega) (fun x hx => by omega) (by omega) (by omega)).mono fun v h1 ⟨e1, r1, f1⟩ => ?_
  subst e1
  have x1 := f1.next
  have l1 := bytR_le s.1
  have F1 : Fix (fun b => b < h.next ∧ b ≠ rb) h h1 := F0.trans (f1.sub fun b hb => ⟨by omega, hb.2⟩)
  have v1 := vA.fix F1 ⟨by omega, by omega⟩
  have o1 := oA.fix F1 ⟨by omega, by omega⟩
  (try simp (maxSteps := 2000000) only [wk, wl, wx, reduceLT, reduceEqDiff, Nat.reduceBEq, reduceIte, wd, Chk, and_true, true_and, fa56_5, Nat.zero_add, o1.at ty54 rfl, v1.at ty119 rfl, build138])
  refine (number_ok r1 (by omega) (fun x hx => by omega) (by omega) (by omega)).mono fun v h2 ⟨e2, r2, f2⟩ => ?_
  subst e2
  have x2 := f2.next
  have l2 := numR_le (bytR s.1).2
  have F2 : Fix (fun b => b < h.next ∧ b ≠ rb) h h2 := F1.trans (f2.sub fun b hb => ⟨by omega, hb.2⟩)
  have v2 := vA.fix F2 ⟨by omega, by omega⟩
  have o2 := oA.fix F2 ⟨by omega, by omega⟩
  (try simp (maxSteps := 2000000) only [wk, wl, wx, reduceLT, reduceEqDiff, Nat.reduceBEq, reduceIte, wd, Chk, and_true, true_and, fa56_5, Nat.zero_add, o2.at ty54 rfl, v2.at ty119 rfl, build138])
  refine (number_ok r2 (by omega) (fun x hx => by omega) (by omega) (by omega)).mono fun v h3 ⟨e3, r3, f3⟩ => ?_
  subst e3
  have x3 := f3.next
  have l3 := numR_le (numR (bytR s.1).2).2
  have F3 : Fix (fun b => b < h.next ∧ b ≠ rb) h h3 := F2.trans (f3.sub fun b hb => ⟨by omega, hb.2⟩)
  have v3 := vA.fix F3 ⟨by omega, by omega⟩
  have o3 := oA.fix F3 ⟨by omega, by omega⟩
  (try simp (maxSteps := 2000000) only [wk, wl, wx, reduceLT, reduceEqDiff, Nat.reduceBEq, reduceIte, wd, Chk, and_true, true_and, fa56_5, Nat.zero_add, o3.at ty54 rfl, v3.at ty119 rfl, build138])
  refine sat_buildSlice (cs := slotV (slotR s.1).1) ty54 rfl ty138 rfl (by decide) (by decide) (fill3 (slotV_length (slotR s.1).1)) rfl ?_
  intro h8 b8 n8 f8
  have o8 := o3.fix f8 (by omega)
  have v8 := v3.fix f8 (by omega)
  have bu8 := (buA.fix (nw.sub fun b hb => ⟨by omega, by omega⟩) F3).fix (nw.sub fun b hb => by omega) f8
  (try simp (maxSteps := 2000000) only [wk, wl, wx, reduceLT, reduceEqDiff, Nat.reduceBEq, reduceIte, wd, Chk, and_true, true_and, fa56_5, Nat.zero_add, o8.at ty54 rfl, v8.at ty119 rfl, build138])
  refine sat_grow bu8 (nw.sub fun b hb => by omega) ty54 rfl ty54 (.inl ⟨_, rfl⟩) ty138 rfl (by decide) (by decide) b8.sl.len b8.sl.cells (by rfl) (slotV_one _) (by simp; omega) ?_
  intro sw h9 g9
  have x9 := g9.fix.next
  have o9 := o8.fix g9.fix ⟨by omega, fun o m cc e => by have := nw _ _ _ _ e; omega⟩
  have w9 : In (fun b => hm.next ≤ b ∧ b < h9.next) sw := fun b o n c e => ⟨by
    rcases g9.own _ _ _ _ e with q | ⟨o, k, c, q⟩
    · omega
    · exact (nw _ _ _ _ q).1, g9.low _ _ _ _ e⟩
  (try simp (maxSteps := 2000000) only [wk, wl, wx, reduceLT, reduceEqDiff, Nat.reduceBEq, reduceIte, wd, Chk, and_true, true_and, fa56_5, Nat.zero_add])
  refine sat_store o9 ty54 (by rw [g9.buf.sl.one.1]; rfl) (by simp) (by rw [g9.buf.sl.one.1]; simp [g9.buf.sl.one.2]) ?_
  intro hz oz nz fz
  rw [g9.buf.sl.one.1] at oz
  (try simp (maxSteps := 2000000) only [wk, wl, wx, reduceLT, reduceEqDiff, Nat.reduceBEq, reduceIte, wd, Chk, and_true, true_and])
  refine ⟨sw, ⟨?_, oz, ?_, w9.sub fun b hb => by omega, ⟨by omega, fun b hb => ?_⟩, ?_, ?_, ?_⟩⟩
  · exact ((r3.fix f8 (by omega) (fun b hb => by omega)).fix g9.fix ⟨by omega, fun o m cc e => by have := nw _ _ _ _ e; omega⟩ (fun b hb => ⟨by omega, fun o m cc e => by have := nw _ _ _ _ e; omega⟩)).fix fz (by omega) (fun b hb => by omega)
  · have := g9.buf.fix (K := (· ≠ ob)) (w9.sub fun b hb => by omega) fz
    simpa [adv, List.flatMap_append] using this
  · rw [fz.same b (by omega), g9.fix.same b ⟨by omega, fun o m cc e => by have := nw _ _ _ _ e; omega⟩, f8.same b (by omega), F3.same b ⟨by omega, by omega⟩, fA.same b hb]
  · show (slotR s.1).2.xs.length ≤ N; (try simp only [expR, slotR]); omega
  · have := sm hb0; simp [adv]; omega
  · intro hb
    have h1 := (slotR_bad (s := s.1) hb).2
    have := sm hb0
    simp only [adv, List.length_append, List.length_cons, List.length_nil]; omega

set_option maxRecDepth 100000 in
set_option maxHeartbeats 8000000 in
theorem ineed_ok {hm h : H} {n0 N rb vb ob : Nat} {ba co en : Int} {bv s1 s2 : V} {s : RdS × List (List UInt8)} (d : DB hm n0 rb vb ob) (i : ∃ sv, DI g hm n0 N rb ob (fun sv => [i64 ba, bv, i64 co, i64 en, s1, s2, sv]) 9 1 (fun L => L.map V.str) s h sv) (hN : N < 2 ^ 39) (hb0 : s.1.bad = false) :
    WF (E g) 74 [.ptr ob 0, .ptr vb 0] h fun _ h' => ∃ sv, DI g hm n0 N rb ob (fun sv => [i64 ba, bv, i64 co, i64 en, s1, s2, sv]) 9 1 (fun L => L.map V.str) (adv bytR s) h' sv := by
  obtain ⟨sv, r0, oA, buA, nw, fA, l0, ln, sm⟩ := i
  obtain ⟨vm, d1, d2, d3, d4, d5, d6, d7, d8⟩ := d
  have xA := fA.next
  have vA := vm.fix fA ⟨by omega, by omega, by omega⟩
  have v0 := vA
  have o0 := oA
  have F0 := Fix.refl (fun b => b < h.next ∧ b ≠ rb) h
  refine WF.enter fn74 rfl ?_
  ((repeat refine WC.seq ?_); refine WC.draw (plans := pl74_0) (by kernel_rfl) ?_; simp only [pl74_0, List.mem_cons, List.not_mem_nil, or_false, forall_eq_or_imp, forall_eq])
  (try simp (maxSteps := 2000000) only [wk, wl, wx, reduceLT, reduceEqDiff, Nat.reduceBEq, reduceIte, wd, Chk, and_true, true_and, fa56_6, Nat.zero_add, o0.at ty25 rfl, v0.at ty119 rfl])
  refine (rtext_ok r0 (by omega) (fun x hx => by omega) (by omega) (by omega)).mono fun v h1 ⟨e1, r1, f1⟩ => ?_
  subst e1
  have x1 := f1.next
  have l1 := bytR_le s.1
  have F1 : Fix (fun b => b < h.next ∧ b ≠ rb) h h1 := F0.trans (f1.sub fun b hb => ⟨by omega, hb.2⟩)
  have v1 := vA.fix F1 ⟨by omega, by omega⟩
  have o1 := oA.fix F1 ⟨by omega, by omega⟩
  (try simp (maxSteps := 2000000) only [wk, wl, wx, reduceLT, reduceEqDiff, Nat.reduceBEq, reduceIte, wd, Chk, and_true, true_and, fa56_6, Nat.zero_add, o1.at ty25 rfl, v1.at ty119 rfl])
  refine sat_slice1 ty25 rfl ty9 rfl rfl rfl ?_
  intro h8 b8 n8 f8
  have o8 := o1.fix f8 (by omega)
  have v8 := v1.fix f8 (by omega)
  have bu8 := (buA.fix (nw.sub fun b hb => ⟨by omega, by omega⟩) F1).fix (nw.sub fun b hb => by omega) f8
  (try simp (maxSteps := 2000000) only [wk, wl, wx, reduceLT, reduceEqDiff, Nat.reduceBEq, reduceIte, wd, Chk, and_true, true_and, fa56_6, Nat.zero_add, o8.at ty25 rfl, v8.at ty119 rfl])
  refine sat_grow bu8 (nw.sub fun b hb => by omega) ty25 rfl ty25 (.inl ⟨_, rfl⟩) ty9 rfl (by decide) (by decide) b8.sl.len b8.sl.cells (by rfl) (by rfl) (by simp; omega) ?_
  intro sw h9 g9
  have x9 := g9.fix.next
  have o9 := o8.fix g9.fix ⟨by omega, fun o m cc e => by have := nw _ _ _ _ e; omega⟩
  have w9 : In (fun b => hm.next ≤ b ∧ b < h9.next) sw := fun b o n c e => ⟨by
    rcases g9.own _ _ _ _ e with q | ⟨o, k, c, q⟩
    · omega
    · exact (nw _ _ _ _ q).1, g9.low _ _ _ _ e⟩
  (try simp (maxSteps := 2000000) only [wk, wl, wx, reduceLT, reduceEqDiff, Nat.reduceBEq, reduceIte, wd, Chk, and_true, true_and, fa56_6, Nat.zero_add])
  refine sat_store o9 ty25 (by rw [g9.buf.sl.one.1]; rfl) (by simp) (by rw [g9.buf.sl.one.1]; simp [g9.buf.sl.one.2]) ?_
  intro hz oz nz fz
  rw [g9.buf.sl.one.1] at oz
  (try simp (maxSteps := 2000000) only [wk, wl, wx, reduceLT, reduceEqDiff, Nat.reduceBEq, reduceIte, wd, Chk, and_true, true_and])
  refine ⟨sw, ⟨?_, oz, ?_, w9.sub fun b hb => by omega, ⟨by omega, fun b hb => ?_⟩, ?_, ?_, ?_⟩⟩
  · exact ((r1.fix f8 (by omega) (fun b hb => by omega)).fix g9.fix ⟨by omega, fun o m cc e => by have := nw _ _ _ _ e; omega⟩ (fun b hb => ⟨by omega, fun o m cc e => by have := nw _ _ _ _ e; omega⟩)).fix fz (by omega) (fun b hb => by omega)
  · have := g9.buf.fix (K := (· ≠ ob)) (w9.sub fun b hb => by omega) fz
    simpa [adv, List.flatMap_append] using this
  · rw [fz.same b (by omega), g9.fix.same b ⟨by omega, fun o m cc e => by have := nw _ _ _ _ e; omega⟩, f8.same b (by omega), F1.same b ⟨by omega, by omega⟩, fA.same b hb]
  · show (bytR s.1).2.xs.length ≤ N; (try simp only [expR, slotR]); omega
  · have := sm hb0; simp [adv]; omega
  · intro hb
    have h1 := (bytR_bad (s := s.1) hb).2
    have := sm hb0
    simp only [adv, List.length_append, List.length_cons, List.length_nil]; omega

end Go.Proofs.OP
