/- Walks: the law of codes. -/
import Derived.Test.YtloblhhnlaaajaaGreatDoorB13
import Derived.Test.YtloblhhnlaaajaaGreatDoorD5
import Derived.Test.YtloblhhnlaaajaaGreatDoorC28
import Derived.Test.YtloblhhnlaaajaaGreatDoorC13
set_option linter.unusedVariables false
set_option linter.unusedSimpArgs false
set_option linter.defProp false
set_option linter.unusedSimpArgs false
namespace Go.Proofs.OP
open Go Go.Ev
open Go.Proofs
open Nat (reduceLT reduceEqDiff)
variable {g : T (List V)}

theorem Buf.notG {E : Env} {h : H} {e sz n : Nat} {s : V} {vs : List V} (b : Buf E h e sz s n vs) : NotG s := fun a n c q => by
  cases b <;> cases q
theorem enc_one {h h' : H} {o : ObjD} {v : V} (ce1 : checkE o ≠ 0 → v = .tuple [.nils, i64 (checkE o)]) (ce2 : checkE o = 0 → ∃ s, v = .tuple [s, i64 0] ∧ BufB g h' s (encB o) ∧ In (fun b => h.next ≤ b ∧ b < h'.next) s) :
    ∃ s, v = .tuple [s, i64 (checkE o)] ∧ Bs g h' s (if checkE o = 0 then encB o else []) ∧ In (fun b => h.next ≤ b ∧ b < h'.next) s := by
  rcases Decidable.em (checkE o = 0) with h0 | h0
  · obtain ⟨s, a, b, c⟩ := ce2 h0
    rw [if_pos h0, h0]
    exact ⟨s, a, b.sl, c⟩
  · rw [if_neg h0]
    exact ⟨.nils, ce1 h0, Sl.nil, In.nils⟩

set_option maxRecDepth 100000 in
set_option maxHeartbeats 4000000 in
theorem codes_ok {h : H} {c : Oc} {o : ObjD} {s : V} {b : List UInt8} (hg : g.get 0 = some magG) (ob : Ob g h (· < h.next) c o) (room : Room o) (hb : Bs g h s b) (hs : In (· < h.next) s) (hbl : b.length < 2 ^ 62) :
    WF (E g) 3 [.agg (c.cells o), s] h fun r _ => r = .bool true := by
  refine WF.enter fn3 rfl ?_
  ((repeat refine WC.seq ?_); refine WC.run ?_)
  (try simp only [wk, wl, wx, reduceLT, reduceEqDiff, Nat.reduceBEq, reduceIte])
  refine wop_box (v := .agg (c.cells o)) (by (try simp only [wk, wl, wx, reduceLT, reduceEqDiff, Nat.reduceBEq, reduceIte])) ?_
  intro h1 b1 n1 f1
  have b1 : Has h1 h.next (c.cells o) := b1
  (try simp only [wk, wl, wx, reduceLT, reduceEqDiff, Nat.reduceBEq, reduceIte])
  have ob1 := (ob.fix f1 (fun _ h => h)).up (K' := (· < h1.next)) (fun _ h => by omega)
  have hb1 := Sl.fix hb hs f1
  have hs1 : In (· < h1.next) s := hs.sub fun _ h => by omega
  have lv : ∀ h', Fix (· < h1.next) h1 h' → loadP (E g) h' 27 (.ptr h.next 0) = some (.agg (c.cells o)) := fun h' f =>
    (b1.fix f (by omega)).agg ty27 rfl (o := 0) (Nat.le_refl 7)
  ((repeat refine WC.seq ?_); refine WC.run ?_)
  (try simp only [wk, wl, wx, reduceLT, reduceEqDiff, Nat.reduceBEq, reduceIte, lv h1 (Fix.refl _ _)])
  refine (few_ok ob1 room).mono fun r h2 ⟨e2, f2⟩ => ?_
  subst e2
  have x2 := f2.next
  cases hf : fewP o with
  | false =>
    (try simp only [wk, wl, wx, reduceLT, reduceEqDiff, Nat.reduceBEq, reduceIte, Bool.not_false, un])
    (repeat refine WC.seq ?_)
    refine WC.cond (b := true) (by (try simp only [wk, wl, wx, reduceLT, reduceEqDiff, Nat.reduceBEq, reduceIte]); (try simp); (try omega)) ?_
    ((repeat refine WC.seq ?_); refine WC.run ?_)
    (try simp only [wk, wl, wx, reduceLT, reduceEqDiff, Nat.reduceBEq, reduceIte])
    refine awake_ok ?_
    (try simp only [wk, wl, wx, reduceLT, reduceEqDiff, Nat.reduceBEq, reduceIte])
    refine WC.ret ?_
    (try simp only [wk, wl, wx, reduceLT, reduceEqDiff, Nat.reduceBEq, reduceIte])
  | true =>
    have fit := few_fits hf
    by_cases hbig : (4000 : Int) < b.length
    · (try simp only [wk, wl, wx, reduceLT, reduceEqDiff, Nat.reduceBEq, reduceIte, Bool.not_true, un, Bs.len hb1, decide_eq_true hbig])
      (repeat refine WC.seq ?_)
      refine WC.cond (b := true) (by (try simp only [wk, wl, wx, reduceLT, reduceEqDiff, Nat.reduceBEq, reduceIte]); (try simp); (try omega)) ?_
      ((repeat refine WC.seq ?_); refine WC.run ?_)
      (try simp only [wk, wl, wx, reduceLT, reduceEqDiff, Nat.reduceBEq, reduceIte])
      refine awake_ok ?_
      (try simp only [wk, wl, wx, reduceLT, reduceEqDiff, Nat.reduceBEq, reduceIte])
      refine WC.ret ?_
      (try simp only [wk, wl, wx, reduceLT, reduceEqDiff, Nat.reduceBEq, reduceIte])
    (try simp only [wk, wl, wx, reduceLT, reduceEqDiff, Nat.reduceBEq, reduceIte, Bool.not_true, un, Bs.len hb1, decide_eq_false hbig])
    (repeat refine WC.seq ?_)
    refine WC.cond (b := false) (by (try simp only [wk, wl, wx, reduceLT, reduceEqDiff, Nat.reduceBEq, reduceIte]); (try simp); (try omega)) (WC.skip ?_)
    (try simp only [wk, wl, wx, reduceLT, reduceEqDiff, Nat.reduceBEq, reduceIte])
    have ob2 := (ob1.fix f2 (fun _ h => h)).up (K' := (· < h2.next)) (fun _ h => by omega)
    ((repeat refine WC.seq ?_); refine WC.draw (plans := pl3_3) (by kernel_rfl) ?_; simp only [pl3_3, List.mem_cons, List.not_mem_nil, or_false, forall_eq_or_imp, forall_eq])
    (try simp (maxSteps := 2000000) only [wk, wl, wx, reduceLT, reduceEqDiff, Nat.reduceBEq, reduceIte, wd, Chk, and_true, true_and, lv h2 f2])
    refine (to_ok ob2 fit).mono fun v h3 ⟨c3, e3, ob3, f3⟩ => ?_
    subst e3
    have x3 := f3.next
    have F3 : Fix (· < h1.next) h1 h3 := f2.trans (f3.sub fun b hb => by omega)
    (try simp (maxSteps := 2000000) only [wk, wl, wx, reduceLT, reduceEqDiff, Nat.reduceBEq, reduceIte, wd, Chk, and_true, true_and, lv h3 F3])
    refine (check_ok (ob3.up fun b hb => hb.2) fit).mono fun v h4 ⟨e4, f4⟩ => ?_
    subst e4
    have x4 := f4.next
    have F4 : Fix (· < h1.next) h1 h4 := F3.trans (f4.sub fun b hb => by omega)
    have ob4 := (ob1.fix F4 (fun _ h => h)).up (K' := (· < h4.next)) (fun _ h => by omega)
    (try simp (maxSteps := 2000000) only [wk, wl, wx, reduceLT, reduceEqDiff, Nat.reduceBEq, reduceIte, wd, Chk, and_true, true_and, lv h4 F4])
    refine (rcheck_ok ob4 fit).mono fun v h5 ⟨e5, f5⟩ => ?_
    subst e5
    have x5 := f5.next
    have F5 : Fix (· < h1.next) h1 h5 := F4.trans (f5.sub fun b hb => by omega)
    have hself : (checkE o != checkE o) = false := by simp
    (try simp (maxSteps := 2000000) only [wk, wl, wx, reduceLT, reduceEqDiff, Nat.reduceBEq, reduceIte, wd, Chk, and_true, true_and, i64, hself])
    (repeat refine WC.seq ?_)
    refine WC.cond (b := false) (by (try simp only [wk, wl, wx, reduceLT, reduceEqDiff, Nat.reduceBEq, reduceIte]); (try simp); (try omega)) (WC.skip ?_)
    (try simp only [wk, wl, wx, reduceLT, reduceEqDiff, Nat.reduceBEq, reduceIte])
    have ob5 := (ob1.fix F5 (fun _ h => h)).up (K' := (· < h5.next)) (fun _ h => by omega)
    ((repeat refine WC.seq ?_); refine WC.run ?_)
    (try simp only [wk, wl, wx, reduceLT, reduceEqDiff, Nat.reduceBEq, reduceIte, lv h5 F5])
    refine (to_ok ob5 fit).mono fun v h6 ⟨c6, e6, ob6, f6⟩ => ?_
    subst e6
    have x6 := f6.next
    (try simp only [wk, wl, wx, reduceLT, reduceEqDiff, Nat.reduceBEq, reduceIte])
    refine (encode_ok hg (ob6.up fun b hb => hb.2) fit).mono fun v h7 ⟨f7, ce1, ce2⟩ => ?_
    obtain ⟨sa, ea, sab, sai⟩ := enc_one ce1 ce2
    subst ea
    have x7 := f7.next
    have F7 : Fix (· < h1.next) h1 h7 := (F5.trans (f6.sub fun b hb => by omega)).trans (f7.sub fun b hb => by omega)
    (try simp only [wk, wl, wx, reduceLT, reduceEqDiff, Nat.reduceBEq, reduceIte])
    have ob7 := (ob1.fix F7 (fun _ h => h)).up (K' := (· < h7.next)) (fun _ h => by omega)
    ((repeat refine WC.seq ?_); refine WC.run ?_)
    (try simp only [wk, wl, wx, reduceLT, reduceEqDiff, Nat.reduceBEq, reduceIte, lv h7 F7])
    refine (rencode_ok ob7 fit).mono fun v h8 ⟨f8, cf1, cf2⟩ => ?_
    obtain ⟨sc, ec, scb, sci⟩ := enc_one cf1 cf2
    subst ec
    have x8 := f8.next
    have F8 : Fix (· < h1.next) h1 h8 := F7.trans (f8.sub fun b hb => by omega)
    have sab8 := Sl.fix sab (sai.sub fun b hb => hb.2) f8
    have hb8 := Sl.fix hb1 hs1 F8
    (try simp only [wk, wl, wx, reduceLT, reduceEqDiff, Nat.reduceBEq, reduceIte])
    ((repeat refine WC.seq ?_); refine WC.run ?_)
    (try simp only [wk, wl, wx, reduceLT, reduceEqDiff, Nat.reduceBEq, reduceIte])
    refine sat_literal ty22 rfl ty5 rfl (by decide) (by decide) rfl rfl ?_
    intro h9 b9 n9 f9
    (try simp only [wk, wl, wx, reduceLT, reduceEqDiff, Nat.reduceBEq, reduceIte])
    have hb9 := Sl.fix hb8 (hs1.sub fun b hb => by omega) f9
    refine sat_app0 (m := b.length) (ws := b.map u8) b9 (by omega) ty22 rfl ty22 (.inl ⟨_, rfl⟩) ty5 rfl (by decide) (by decide) (by simpa using Sl.len hb9) (by simpa using Sl.cells hb9) (by simp) one_u8 (by simp; omega) ?_
    intro s10 h10 g10 o10 el10 f10 n10
    have x10 := f10.next
    (try simp only [wk, wl, wx, reduceLT, reduceEqDiff, Nat.reduceBEq, reduceIte])
    have in10 : In (fun b => h8.next ≤ b ∧ b < h10.next) s10 := fun b o n c e => by
      obtain ⟨q1, q2⟩ := o10 _ _ _ _ e
      exact ⟨by rcases q1 with rfl | rfl <;> omega, q2⟩
    have g10' : BufB g h10 s10 b := g10
    refine (decode_ok hg g10'.sl (in10.sub fun b hb => hb.2) (Buf.notG g10') (by omega)).mono fun v h11 ⟨f11, c11, e11, ob11⟩ => ?_
    subst e11
    have x11 := f11.next
    (try simp only [wk, wl, wx, reduceLT, reduceEqDiff, Nat.reduceBEq, reduceIte])
    refine wop_alloc ty35 ?_
    intro h12 b12 n12 f12
    (try simp only [wk, wl, wx, reduceLT, reduceEqDiff, Nat.reduceBEq, reduceIte])
    refine sat_store b12 ty35 rfl (Nat.le_refl 7) (by simp only [V.cells, Oc.cells, List.all_cons, List.all_nil, (Sl.one ob11.code).2, (Sl.one ob11.data).2, (Sl.one ob11.syms).2, (Sl.one ob11.rels).2, (Sl.one ob11.needs).2, Bool.and_true]; rfl) ?_
    intro h13 b13 n13 f13
    have b13 : Has h13 h11.next (c11.cells (decP b).1) := b13
    have F1113 : Fix (· < h11.next) h11 h13 := ⟨by omega, fun b hb => by rw [f13.same b (by omega), f12.same b hb]⟩
    have F813 : Fix (· < h8.next) h8 h13 := ⟨by omega, fun b hb => by rw [F1113.same b (by omega), f11.same b (by omega), f10.same b (by omega), f9.same b hb]⟩
    have hb13 := Sl.fix hb8 (hs1.sub fun b hb => by omega) F813
    (try simp only [wk, wl, wx, reduceLT, reduceEqDiff, Nat.reduceBEq, reduceIte])
    ((repeat refine WC.seq ?_); refine WC.run ?_)
    (try simp only [wk, wl, wx, reduceLT, reduceEqDiff, Nat.reduceBEq, reduceIte])
    refine (rdecode_ok hb13 (hs1.sub fun b hb => by omega) (by omega)).mono fun v h14 ⟨f14, c14, e14, ob14⟩ => ?_
    rw [dec_same] at e14 ob14
    subst e14
    have x14 := f14.next
    (try simp only [wk, wl, wx, reduceLT, reduceEqDiff, Nat.reduceBEq, reduceIte])
    refine wop_alloc ty27 ?_
    intro h15 b15 n15 f15
    (try simp only [wk, wl, wx, reduceLT, reduceEqDiff, Nat.reduceBEq, reduceIte])
    refine sat_store b15 ty27 rfl (Nat.le_refl 7) (by simp only [V.cells, Oc.cells, List.all_cons, List.all_nil, (Sl.one ob14.code).2, (Sl.one ob14.data).2, (Sl.one ob14.syms).2, (Sl.one ob14.rels).2, (Sl.one ob14.needs).2, Bool.and_true]; rfl) ?_
    intro h16 b16 n16 f16
    have b16 : Has h16 h14.next (c14.cells (decP b).1) := b16
    have F1416 : Fix (· < h14.next) h14 h16 := ⟨by omega, fun b hb => by rw [f16.same b (by omega), f15.same b hb]⟩
    have F1316 : Fix (· < h13.next) h13 h16 := f14.trans (F1416.sub fun b hb => by omega)
    have F816 : Fix (· < h8.next) h8 h16 := F813.trans (F1316.sub fun b hb => by omega)
    have lx : loadP (E g) h16 35 (.ptr h11.next 0) = some (.agg (c11.cells (decP b).1)) := (b13.fix F1316 (by omega)).agg ty35 rfl (Nat.le_refl 7)
    have ly : loadP (E g) h16 27 (.ptr h14.next 0) = some (.agg (c14.cells (decP b).1)) := b16.agg ty27 rfl (Nat.le_refl 7)
    have obx := (ob11.fix F1113 (fun b hb => hb.2)).fix F1316 (fun b hb => by omega)
    have oby := ob14.fix F1416 (fun b hb => hb.2)
    have sa16 := Sl.fix sab8 (sai.sub fun b hb => by omega) F816
    have sc16 := Sl.fix scb (sci.sub fun b hb => hb.2) F816
    (try simp only [wk, wl, wx, reduceLT, reduceEqDiff, Nat.reduceBEq, reduceIte])
    ((repeat refine WC.seq ?_); refine WC.run ?_)
    (try simp only [wk, wl, wx, reduceLT, reduceEqDiff, Nat.reduceBEq, reduceIte, conv_str sa16, conv_str sc16, bin_seql, beq_self_eq_true, i64, un, lx, ly])
    refine (same_ok (obx.up fun b hb => by omega) (oby.up fun b hb => by omega) (decP_fits b) (decP_fits b)).mono fun v h17 ⟨⟨r, e17, hr⟩, f17⟩ => ?_
    obtain rfl : r = true := hr.2 rfl
    subst e17
    (try simp only [wk, wl, wx, reduceLT, reduceEqDiff, Nat.reduceBEq, reduceIte, un, beq_self_eq_true])
    refine awake_ok ?_
    (try simp only [wk, wl, wx, reduceLT, reduceEqDiff, Nat.reduceBEq, reduceIte])
    refine WC.ret ?_
    (try simp only [wk, wl, wx, reduceLT, reduceEqDiff, Nat.reduceBEq, reduceIte])
end Go.Proofs.OP
