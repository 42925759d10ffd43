/- Walks: object.Load. Printed by genS14.py. -/
import Derived.Test.YtloblhhnlaaajaaDoorV15
import Derived.Test.YtloblhhnlaaajaaDoorV35
import Derived.Test.YtloblhhnlaaajaaDoorV27
set_option linter.unusedVariables false
set_option linter.unusedSimpArgs false
set_option linter.defProp false
set_option linter.unusedSimpArgs false
namespace Go.Proofs.OP
open Go Go.Ev
open Go.Proofs
open Nat (reduceLT reduceEqDiff)
variable {g : T (List V)}

theorem build145 {b o n : Nat} {c : Cp} : buildV (E g) 110 [(0, .slice b o n c)] = some (.agg [.slice b o n c]) := by
 simp only [buildV, ty110, fillAll, nth, sizeOf_of ty108, List.all_cons, List.all_nil, ty108, Option.isSome_some, Bool.and_true, Bool.not_true, cond_false]
 rfl
theorem Ic.one {c : Ic} {x : ImgD} {h : H} {K : Nat → Prop} (im : Im g h K c x) : (c.cells x).all V.one = true := by
 simp only [Ic.cells, List.all_cons, List.all_nil, (Sl.one im.bytes).2, (Sl.one im.exps).2, (Sl.one im.slots).2, (Sl.one im.needs).2, Bool.and_true]; rfl
set_option maxRecDepth 100000 in
set_option maxHeartbeats 8000000 in
theorem load_ok {h : H} {c : Ic} {x : ImgD} {ls ns : V} {L : List (Ic × ImgD)} {N : List (List UInt8)} (im : Im g h (· < h.next) c x) (fit : FitsI x) (hL : Ims g h (· < h.next) ls L) (hw : Whole ls L.length) (hfit : ∀ p ∈ L, FitsI p.2) (hN : Ss g h ns N) (inN : In (· < h.next) ns) (lL : L.length < 2 ^ 40) (lN : N.length < 2 ^ 40) :
  WF (E g) 77 [.agg (c.cells x), ls, ns] h fun v h' => LdQ g (fun b => h.next ≤ b) h x (L.map (·.2)) N v h' := by
 refine WF.enter fn77 rfl ?_
 ((repeat refine WC.seq ?_); refine WC.run ?_)
 (try simp only [wk, wl, wx, reduceLT, reduceEqDiff, Nat.reduceBEq, reduceIte])
 refine wop_box (v := .agg (c.cells x)) (by (try simp only [wk, wl, wx, reduceLT, reduceEqDiff, Nat.reduceBEq, reduceIte])) ?_
 intro h1 b1 n1 f1
 (try simp only [wk, wl, wx, reduceLT, reduceEqDiff, Nat.reduceBEq, reduceIte])
 refine wop_box (v := ls) (by (try simp only [wk, wl, wx, reduceLT, reduceEqDiff, Nat.reduceBEq, reduceIte])) ?_
 intro h2 b2 n2 f2
 (try simp only [wk, wl, wx, reduceLT, reduceEqDiff, Nat.reduceBEq, reduceIte])
 refine wop_alloc ty35 ?_
 intro h3 b3 n3 f3
 (try simp only [wk, wl, wx, reduceLT, reduceEqDiff, Nat.reduceBEq, reduceIte])
 have b1 : Has h1 h.next (c.cells x) := b1
 have b2 : Has h2 h1.next [ls] := by have := b2; rwa [(Sl.one hL.sl).1] at this
 have F3 : Kept h h3 := ⟨by omega, fun b hb => by rw [f3.same b (by omega), f2.same b (by omega), f1.same b hb]⟩
 have a3 : Has h3 h.next (c.cells x) := (b1.fix f2 (by omega)).fix f3 (by omega)
 have b3' : Has h3 h1.next [ls] := b2.fix f3 (by omega)
 have im3 := (im.fix F3 fun _ h => h).up (K' := (· < h3.next)) fun b hb => by omega
 have hL3 := (hL.fix F3 fun _ h => h).up (K' := (· < h3.next)) fun b hb => by omega
 have hN3 := Sl.fix hN inN F3
 have l1 : loadP (E g) h3 32 (.ptr h.next 0) = some (.agg (c.cells x)) := a3.agg ty32 rfl (Nat.le_refl 7)
 have l2 : loadP (E g) h3 108 (.ptr h1.next 0) = some ls := b3'.at ty108 rfl 0
 ((repeat refine WC.seq ?_); refine WC.run ?_)
 (try simp only [wk, wl, wx, reduceLT, reduceEqDiff, Nat.reduceBEq, reduceIte, l1, l2])
 refine (given_ok im3 fit hL3 hw hfit hN3 (inN.sub fun b hb => by omega) lL lN).mono fun v h4 ⟨e4, f4⟩ => ?_
 subst e4
 have x4 := f4.next
 generalize hlibs : L.map (·.2) = libs
 (try simp only [wk, wl, wx, reduceLT, reduceEqDiff, Nat.reduceBEq, reduceIte])
 refine wop_alloc ty35 ?_
 intro h5 b5 n5 f5
 (try simp only [wk, wl, wx, reduceLT, reduceEqDiff, Nat.reduceBEq, reduceIte])
 refine sat_store b5 ty35 rfl (Nat.le_refl 2) rfl ?_
 intro h6 b6 n6 f6
 have b6 : Has h6 h4.next (faultV (givenF x libs N)) := b6
 (try simp only [wk, wl, wx, reduceLT, reduceEqDiff, Nat.reduceBEq, reduceIte])
 have F36 : Kept h3 h6 := ⟨by omega, fun b hb => by rw [f6.same b (by omega), f5.same b (by omega), f4.same b hb]⟩
 have F6 : Kept h h6 := F3.trans (F36.sub fun b hb => by omega)
 have b7 := b3.fix F36 (by omega)
 have l3 : loadP (E g) h6 33 (.ptr h4.next 1) = some (i64 (givenF x libs N).2) := b6.at ty33 rfl 1
 have lg : loadP (E g) h6 35 (.ptr h4.next 0) = some (.agg (faultV (givenF x libs N))) := b6.agg ty35 rfl (Nat.le_refl 2)
 ((repeat refine WC.seq ?_); refine WC.run ?_)
 (try simp only [wk, wl, wx, reduceLT, reduceEqDiff, Nat.reduceBEq, reduceIte, fa35_1, Nat.zero_add, l3, i64])
 (repeat refine WC.seq ?_)
 rcases (Decidable.em ((givenF x libs N).2 = 0)).symm with hg0 | hg0
 ·refine WC.cond (b := true) (by (try simp only [wk, wl, wx, reduceLT, reduceEqDiff, Nat.reduceBEq, reduceIte, hg0]); (try simp); (try omega)) ?_
  (try simp only [wk, wl, wx, reduceLT, reduceEqDiff, Nat.reduceBEq, reduceIte])
  ((repeat refine WC.seq ?_); refine WC.draw (plans := pl77_3) (by kernel_rfl) ?_; simp only [pl77_3, List.mem_cons, List.not_mem_nil, or_false, forall_eq_or_imp, forall_eq])
  (try simp (maxSteps := 2000000) only [wk, wl, wx, reduceLT, reduceEqDiff, Nat.reduceBEq, reduceIte, wd, Chk, and_true, true_and, lg])
  refine sat_store b7 ty35 rfl (Nat.le_refl 2) rfl ?_
  intro hz az nz fz
  have lz : loadP (E g) hz 35 (.ptr h2.next 0) = some (.agg (faultV (givenF x libs N))) := az.agg ty35 rfl (Nat.le_refl 2)
  (try simp (maxSteps := 2000000) only [wk, wl, wx, reduceLT, reduceEqDiff, Nat.reduceBEq, reduceIte, wd, Chk, and_true, true_and])
  refine WC.ret ?_
  have hP : ldP x libs N = (none, givenF x libs N) := by unfold ldP; rw [if_pos hg0]
  (try simp only [wk, wl, wx, reduceLT, reduceEqDiff, Nat.reduceBEq, reduceIte, lz])
  exact ⟨⟨by omega, fun b hb => by rw [fz.same b (by omega), F6.same b hb]⟩, _, by rw [hP], by rw [hP]⟩
 refine WC.cond (b := false) (by (try simp only [wk, wl, wx, reduceLT, reduceEqDiff, Nat.reduceBEq, reduceIte, hg0]); (try simp); (try omega)) (WC.skip ?_)
 (try simp only [wk, wl, wx, reduceLT, reduceEqDiff, Nat.reduceBEq, reduceIte])
 obtain ⟨h50, hnl, smx, gl, -⟩ := givenF_good hg0
 have hP : ldP x libs N = if (loadR x libs N).2.2 ≠ 0 then (none, (loadR x libs N).2) else (some (loadR x libs N).1.2, 0, 0) := by unfold ldP; rw [if_neg (by simp [hg0])]
 have im6 := (im3.fix F36 fun _ h => h).up (K' := (· < h6.next)) fun b hb => by omega
 have hL6 := (hL3.fix F36 fun _ h => h).up (K' := (· < h6.next)) fun b hb => by omega
 have hN6 := Sl.fix hN3 (inN.sub fun b hb => by omega) F36
 have v6 := b3'.fix F36 (by omega)
 have a6 := a3.fix F36 (by omega)
 have l6 : loadP (E g) h6 32 (.ptr h.next 0) = some (.agg (c.cells x)) := a6.agg ty32 rfl (Nat.le_refl 7)
 have lmL : L.length = libs.length := by rw [← hlibs, List.length_map]
 ((repeat refine WC.seq ?_); refine WC.run ?_)
 (try simp only [wk, wl, wx, reduceLT, reduceEqDiff, Nat.reduceBEq, reduceIte, l6])
 refine (copied_ok im6 fit).mono fun v h7 ⟨⟨c1, e7, nw, ix7, in7⟩, f7⟩ => ?_
 subst e7
 have x7 := f7.next
 (try simp only [wk, wl, wx, reduceLT, reduceEqDiff, Nat.reduceBEq, reduceIte])
 refine sat_buildSlice (cs := c1.cells x) ty108 rfl ty32 rfl (by decide) (by decide) (fill7 rfl) rfl ?_
 intro h8 bf8 n8 f8
 (try simp only [wk, wl, wx, reduceLT, reduceEqDiff, Nat.reduceBEq, reduceIte, build145])
 refine wop_box (v := .agg [.slice h7.next 0 1 (.lit 1)]) (by (try simp only [wk, wl, wx, reduceLT, reduceEqDiff, Nat.reduceBEq, reduceIte])) ?_
 intro h9 b9 n9 f9
 (try simp only [wk, wl, wx, reduceLT, reduceEqDiff, Nat.reduceBEq, reduceIte])
 have b9 : Has h9 h8.next [.slice h7.next 0 1 (.lit 1)] := b9
 ((repeat refine WC.seq ?_); refine WC.run ?_)
 (try simp only [wk, wl, wx, reduceLT, reduceEqDiff, Nat.reduceBEq, reduceIte])
 refine sat_slice1 (v := i64 (-1)) ty211 rfl ty3 rfl rfl rfl ?_
 intro h10 bf10 n10 f10
 (try simp only [wk, wl, wx, reduceLT, reduceEqDiff, Nat.reduceBEq, reduceIte])
 have F7 : Kept h7 h10 := ⟨by omega, fun b hb => by rw [f10.same b (by omega), f9.same b (by omega), f8.same b hb]⟩
 have F10 : Kept h6 h10 := f7.trans (F7.sub fun b hb => by omega)
 obtain ⟨tag0, lm0⟩ := LM.init (g := g) (el := 32) (q := h2.next) (X := fun b => h.next ≤ b) (hz := h10) (lo := h6.next) (pb := h8.next) (sb := h7.next) (sc := .lit 1) (c' := c1) (x := x) (av := .slice h9.next 0 1 (.lit 1)) (p1 := h7.next) (by omega) x7
  ((nw.im.fix F7 fun _ h => h).up fun b hb => by omega) nw.bw nw.sw (fun b o n c e => ⟨nw.bi _ _ _ _ e, nw.im.inB _ _ _ _ e⟩) (fun b o n c e => ⟨nw.si _ _ _ _ e, nw.im.inS _ _ _ _ e⟩) (fun b o n c e => by have := ix7 _ _ _ _ e; have := nw.im.inX _ _ _ _ e; omega) (fun b o n c e => by have := in7 _ _ _ _ e; have := nw.im.inN _ _ _ _ e; omega) (by omega) nw.s1 nw.s2 nw.s3 nw.s4 nw.s5
  ((bf8.fix (K := (· < h8.next)) (fun b o n c e => by injection e with e; omega) f9).fix (K := (· < h9.next)) (fun b o n c e => by injection e with e; omega) f10) (by omega) (by omega) (by omega) (b9.fix f10 (by omega)) bf10 (fun b o n c e => by injection e with e; omega) ⟨ix7.sub fun b hb => by omega, in7.sub fun b hb => by omega⟩
 ((repeat refine WC.seq ?_); refine WC.run ?_)
 (try simp only [wk, wl, wx, reduceLT, reduceEqDiff, Nat.reduceBEq, reduceIte])
 (repeat refine WC.seq ?_)
 refine WC.block ?_
 refine WC.while (fun m fr hh => ∃ ts i, ∃ st : LSt, ∃ cs tag av pb sb sc, fr = ⟨ts, 93, [], 77, none⟩ ∧ LM g 32 h2.next (fun b => h.next ≤ b) hh h6.next pb sb sc tag cs st av ∧ Fix (· < h6.next) h6 hh ∧ m = 60 - i ∧ i ≤ st.2.length ∧ LInv libs st ∧ loadR x libs N = loadF N libs (60 - i) i st ∧ ts.get 2 = some ns ∧ ts.get 4 = some (.ptr h1.next 0) ∧ ts.get 7 = some (.ptr h2.next 0) ∧ ts.get 9 = some (.ptr pb 0) ∧ ts.get 10 = some av ∧ ts.get 11 = some (.int .i64 i)) ?_ ⟨_, 0, ([-1], [x]), [c1], tag0, .slice h9.next 0 1 (.lit 1), h8.next, h7.next, .lit 1, rfl, lm0, F10, rfl, by omega, linv0 smx, rfl, ?_, ?_, ?_, ?_, ?_, ?_⟩
 ·rintro m fr hh ⟨ts, i, st, cs, tag, av, pb, sb, sc, rfl, lm, ff, rfl, hi, inv, hR, t2, t4, t7, t9, t10, t11⟩
  have xh := ff.next
  have hst := inv.bound
  have pm := lm.pm
  have lp : loadP (E g) hh 108 (.ptr pb 0) = some (.slice sb 0 st.2.length sc) := pm.has.at ty108 rfl 0
  ((repeat refine WC.seq ?_); refine WC.run ?_)
  (try simp only [wk, wl, wx, reduceLT, reduceEqDiff, Nat.reduceBEq, reduceIte, t11, t9, fa110_0, Nat.zero_add, lp, Sl.lenB pm.sl ty108 rfl])
  (repeat refine WC.seq ?_)
  by_cases hlt : i < st.2.length
  ·refine WC.cond (b := true) (by (try simp only [wk, wl, wx, reduceLT, reduceEqDiff, Nat.reduceBEq, reduceIte]); (try simp); (try omega)) (WC.skip ?_)
   (try simp only [wk, wl, wx, reduceLT, reduceEqDiff, Nat.reduceBEq, reduceIte])
   obtain ⟨ci, hci⟩ := pm.ic hlt
   have hxi : st.2[i]? = some st.2[i] := List.getElem?_eq_getElem hlt
   have hai : st.1[i]? = some (st.1[i]'(by rw [inv.len]; exact hlt)) := List.getElem?_eq_getElem _
   generalize hXx : st.2[i] = X at hxi
   generalize hAa : st.1[i]'(by rw [inv.len]; exact hlt) = A at hai
   have mi := pm.im i ci X hci hxi
   have ac := pm.cell hci hxi
   have ln : loadP (E g) hh 30 (.ptr sb (i * 7 + 6)) = some ci.needs := ac.at ty30 rfl (j := 6) (by simp)
   have smX := inv.good X (List.mem_of_getElem? hxi)
   have hXn : X.needs.length < 2 ^ 40 := by have := (smallI_fits smX).needs; omega
   have hR2 : loadR x libs N = if (needF N libs A X.needs st).2.2 ≠ 0 then needF N libs A X.needs st else loadF N libs (60 - (i + 1)) (i + 1) (needF N libs A X.needs st).1 := by
    rw [hR, show 60 - i = (60 - (i + 1)) + 1 from by omega, loadF, hxi, hai]
   (repeat refine WC.seq ?_)
   refine WC.block ?_
   ((repeat refine WC.seq ?_); refine WC.run ?_)
   (try simp only [wk, wl, wx, reduceLT, reduceEqDiff, Nat.reduceBEq, reduceIte, t9, t11, fa110_0, fa32_6, Nat.zero_add, lp, idx_slice ty108 rfl ty32 hlt, ln, Sl.lenB mi.im.needs ty30 rfl])
   (repeat refine WC.seq ?_)
   refine WC.block ?_
   refine WC.while (fun m fr hq => ∃ ts j, ∃ st' : LSt, ∃ cs tag av sb sc, fr = ⟨ts, 93, [], 77, none⟩ ∧ LM g 32 h2.next (fun b => h.next ≤ b) hq h6.next pb sb sc tag cs st' av ∧ Fix (· < h6.next) h6 hq ∧ m = X.needs.length - j ∧ j ≤ X.needs.length ∧ LInv libs st' ∧ i < st'.2.length ∧ st'.1[i]? = some A ∧ needF N libs A X.needs st = needF N libs A (X.needs.drop j) st' ∧ Ss g hq ci.needs X.needs ∧ In (fun b => b < hq.next ∧ tag b = 0) ci.needs ∧ ts.get 2 = some ns ∧ ts.get 4 = some (.ptr h1.next 0) ∧ ts.get 7 = some (.ptr h2.next 0) ∧ ts.get 9 = some (.ptr pb 0) ∧ ts.get 10 = some av ∧ ts.get 11 = some (.int .i64 i) ∧ ts.get 45 = some ci.needs ∧ ts.get 46 = some (.int .i64 X.needs.length) ∧ ts.get 47 = some (.int .i64 j)) ?_ ⟨_, 0, st, cs, tag, av, sb, sc, rfl, lm, ff, rfl, by omega, inv, hlt, hai, by simp, mi.im.needs, fun b o n c e => ⟨mi.im.inN _ _ _ _ e, mi.nt _ _ _ _ e⟩, ?_, ?_, ?_, ?_, ?_, ?_, ?_, ?_, ?_⟩
   ·rintro m fr hq ⟨ts, j, st', cs, tag, av, sb, sc, rfl, lm, fq, rfl, hj, inv, hist, hai', hNF, nds, nin, t2, t4, t7, t9, t10, t11, t45, t46, t47⟩
    have xq := fq.next
    have hst := inv.bound
    have pm := lm.pm
    ((repeat refine WC.seq ?_); refine WC.run ?_)
    (try simp only [wk, wl, wx, reduceLT, reduceEqDiff, Nat.reduceBEq, reduceIte, t46, t47])
    (repeat refine WC.seq ?_)
    by_cases hjt : j < X.needs.length
    ·refine WC.cond (b := true) (by (try simp only [wk, wl, wx, reduceLT, reduceEqDiff, Nat.reduceBEq, reduceIte]); (try simp); (try omega)) (WC.skip ?_)
     (try simp only [wk, wl, wx, reduceLT, reduceEqDiff, Nat.reduceBEq, reduceIte])
     obtain ⟨p, p1, p2⟩ := nds.at ty30 rfl ty9 rfl rfl hjt
     have p2 := p2 hq fun _ _ _ _ _ => rfl
     rw [needF_step hjt] at hNF
     have hNq : Ss g hq ns N := Sl.fix hN6 (inN.sub fun b hb => by omega) fq
     (repeat refine WC.seq ?_)
     refine WC.block ?_
     ((repeat refine WC.seq ?_); refine WC.run ?_)
     (try simp only [wk, wl, wx, reduceLT, reduceEqDiff, Nat.reduceBEq, reduceIte, t45, t47, p1, p2])
     ((repeat refine WC.seq ?_); refine WC.run ?_)
     (try simp only [wk, wl, wx, reduceLT, reduceEqDiff, Nat.reduceBEq, reduceIte, t2])
     refine (idxS_ok (k := X.needs[j]) hNq (by omega)).mono fun v ha ⟨ea, ea'⟩ => ?_
     subst ea ea'
     (try simp only [wk, wl, wx, reduceLT, reduceEqDiff, Nat.reduceBEq, reduceIte])
     refine wop_alloc ty3 ?_
     intro hb bb nb fb
     (try simp only [wk, wl, wx, reduceLT, reduceEqDiff, Nat.reduceBEq, reduceIte])
     refine sat_store bb ty3 rfl (Nat.le_refl 1) rfl ?_
     intro hc bc nc fc
     (try simp only [wk, wl, wx, reduceLT, reduceEqDiff, Nat.reduceBEq, reduceIte])
     have bc : Has hc ha.next [.int .i64 (idxI (fun x => X.needs[j] == x) N)] := bc
     have Fc : Kept ha hc := ⟨by omega, fun b hb => by rw [fc.same b (by omega), fb.same b hb]⟩
     have lmc := lm.kept Fc
     have lk : loadP (E g) hc 3 (.ptr ha.next 0) = some (.int .i64 (idxI (fun x => X.needs[j] == x) N)) := bc.at ty3 rfl 0
     have F6c : Fix (· < h6.next) h6 hc := fq.trans (Fc.sub fun b hb => by omega)
     have b7c := b7.fix F6c (by omega)
     ((repeat refine WC.seq ?_); refine WC.run ?_)
     (try simp only [wk, wl, wx, reduceLT, reduceEqDiff, Nat.reduceBEq, reduceIte, lk])
     (repeat refine WC.seq ?_)
     cases hf : fstI (fun x => X.needs[j] == x) N with
     | none =>
      simp only [hf] at hNF
      have hik : idxI (fun x => X.needs[j] == x) N = -1 := by rw [idxI, hf]
      rw [hik] at lk ⊢
      refine WC.cond (b := true) (by (try simp only [wk, wl, wx, reduceLT, reduceEqDiff, Nat.reduceBEq, reduceIte]); (try simp); (try omega)) ?_
      (try simp only [wk, wl, wx, reduceLT, reduceEqDiff, Nat.reduceBEq, reduceIte])
      ((repeat refine WC.seq ?_); refine WC.run ?_)
      have hA : (st'.1[i]'(by rw [inv.len]; exact hist)) = A := by
       have := List.getElem?_eq_getElem (l := st'.1) (i := i) (by rw [inv.len]; exact hist)
       rw [hai'] at this; injection this with this; exact this.symm
      obtain ⟨pa, pa1, pa2⟩ := lmc.nums.at ty211 rfl ty3 rfl rfl (show i < st'.1.length by rw [inv.len]; exact hist)
      have pa2 := pa2 hc fun _ _ _ _ _ => rfl
      rw [hA] at pa2
      (try simp only [wk, wl, wx, reduceLT, reduceEqDiff, Nat.reduceBEq, reduceIte, t10, t11, pa1, pa2, i64])
      refine (bad_ok).mono fun v hd ⟨ed, fd⟩ => ?_
      subst ed
      have xd := fd.next
      (try simp only [wk, wl, wx, reduceLT, reduceEqDiff, Nat.reduceBEq, reduceIte])
      (try simp only [wk, wl, wx, reduceLT, reduceEqDiff, Nat.reduceBEq, reduceIte, t7])
      refine sat_store (b7c.fix fd (by omega)) ty35 rfl (Nat.le_refl 2) rfl ?_
      intro hz az nz fz
      have lz : loadP (E g) hz 35 (.ptr h2.next 0) = some (.agg (faultV (A, 22))) := az.agg ty35 rfl (Nat.le_refl 2)
      (try simp only [wk, wl, wx, reduceLT, reduceEqDiff, Nat.reduceBEq, reduceIte])
      refine WC.ret ?_
      have hPz : ldP x libs N = (none, A, 22) := by rw [hP, hR2, hNF, if_pos (show (22 : Int) ≠ 0 by decide), if_pos (show (22 : Int) ≠ 0 by decide)]
      (try simp only [wk, wl, wx, reduceLT, reduceEqDiff, Nat.reduceBEq, reduceIte, t7, lz])
      exact ⟨⟨by omega, fun b hb => by rw [fz.same b (by omega), fd.same b (by omega), F6c.same b (by omega), F6.same b hb]⟩, _, by rw [hPz], by rw [hPz]⟩
     | some k =>
      simp only [hf] at hNF
      obtain ⟨hkN, _⟩ := fstI_some hf
      have hkl : k < libs.length := by omega
      have hkL : k < L.length := by omega
      have hik : idxI (fun x => X.needs[j] == x) N = (k : Int) := by rw [idxI, hf]
      rw [hik] at lk bc ⊢
      refine WC.cond (b := false) (by (try simp only [wk, wl, wx, reduceLT, reduceEqDiff, Nat.reduceBEq, reduceIte]); (try simp); (try omega)) (WC.skip ?_)
      (try simp only [wk, wl, wx, reduceLT, reduceEqDiff, Nat.reduceBEq, reduceIte])
      ((repeat refine WC.seq ?_); refine WC.run ?_)
      (try simp only [wk, wl, wx, reduceLT, reduceEqDiff, Nat.reduceBEq, reduceIte, t10, lk])
      refine (containsN_ok (k := (k : Int)) lmc.nums (by rw [inv.len]; omega)).mono fun v hd ⟨ed, ed'⟩ => ?_
      subst ed ed'
      (try simp only [wk, wl, wx, reduceLT, reduceEqDiff, Nat.reduceBEq, reduceIte])
      (repeat refine WC.seq ?_)
      cases hct : st'.1.contains (k : Int) with
      | true =>
       rw [if_pos hct] at hNF
       refine WC.cond (b := true) (by (try simp only [wk, wl, wx, reduceLT, reduceEqDiff, Nat.reduceBEq, reduceIte, hct]); (try simp); (try omega)) ?_
       refine WC.exit ?_
       (try simp only [wk, wl, wx, reduceLT, reduceEqDiff, Nat.reduceBEq, reduceIte, show Nat.beq 3 3 = true from rfl])
       ((repeat refine WC.seq ?_); refine WC.run ?_)
       (try simp only [wk, wl, wx, reduceLT, reduceEqDiff, Nat.reduceBEq, reduceIte, t47, bin_add])
       refine ⟨_, ?_, _, j + 1, st', cs, tag, av, sb, sc, rfl, lmc, F6c, rfl, by omega, inv, hist, hai', hNF, Sl.fix nds (nin.sub fun b hb => hb.1) Fc, nin.sub fun b hb => ⟨by omega, hb.2⟩, ?_⟩
       ·omega
       (try simp only [wk, wl, wx, reduceLT, reduceEqDiff, Nat.reduceBEq, reduceIte, t2, t4, t7, t9, t10, t11, t45, t46])
       refine ⟨trivial, trivial, trivial, trivial, trivial, trivial, trivial, trivial, ?_⟩
       rw [wrap64 (by omega) (by omega)]; rfl
      | false =>
       rw [if_neg (by rw [hct]; simp)] at hNF
       have hyk : libs[k]? = some libs[k] := List.getElem?_eq_getElem hkl
       have hLk : L[k].2 = libs[k] := by subst hlibs; rw [List.getElem_map]
       generalize hYy : libs[k] = Y at hyk hLk
       simp only [hyk] at hNF
       refine WC.cond (b := false) (by (try simp only [wk, wl, wx, reduceLT, reduceEqDiff, Nat.reduceBEq, reduceIte, hct]); (try simp); (try omega)) (WC.skip ?_)
       (try simp only [wk, wl, wx, reduceLT, reduceEqDiff, Nat.reduceBEq, reduceIte])
       have pmc := lmc.pm
       have lpc : loadP (E g) hd 108 (.ptr pb 0) = some (.slice sb 0 st'.2.length sc) := pmc.has.at ty108 rfl 0
       have hLc := (hL6.fix F6c fun _ h => h).up (K' := (· < hd.next)) fun b hb => by omega
       have vc := v6.fix F6c (by omega)
       have hzl : (cs.zip st'.2).length = st'.2.length := by rw [List.length_zip, pmc.len, Nat.min_self]
       ((repeat refine WC.seq ?_); refine WC.run ?_)
       (try simp only [wk, wl, wx, reduceLT, reduceEqDiff, Nat.reduceBEq, reduceIte, t9, t4, fa110_0, Nat.zero_add, lpc, w_makeFunc])
       refine (containsI_ok (P := fun p => ovl p.2 L[k].2) pmc.rcs (fun b o n c e => by injection e with e; subst e; exact pmc.sbt.2.1) (by rw [hzl]; omega) (fun h' p kk hp => load1_ok hkL ((hLc.fix kk fun _ h => h).up fun b hb => Nat.lt_of_lt_of_le hb kk.next) (vc.fix kk (by omega)) (bc.fix kk (by omega)) (by have := kk.next; omega) (by have := kk.next; omega) (((pmc.zip hp).1.fix kk fun _ h => h).up fun b hb => Nat.lt_of_lt_of_le hb kk.next) (tame_of (inv.good _ (pmc.zip hp).2)) (tame_of (gl _ (by rw [hLk]; exact List.mem_of_getElem? hyk))))).mono fun v he ⟨ee, fe⟩ => ?_
       subst ee
       rw [hLk, zip_any (P := fun x => ovl x Y) pmc.len]
       have xe := fe.next
       (try simp only [wk, wl, wx, reduceLT, reduceEqDiff, Nat.reduceBEq, reduceIte])
       have lme := lmc.kept fe
       have F6e : Fix (· < h6.next) h6 he := F6c.trans (fe.sub fun b hb => by omega)
       (repeat refine WC.seq ?_)
       cases hov : st'.2.any (fun x => ovl x Y) with
       | true =>
        rw [if_pos hov] at hNF
        refine WC.cond (b := true) (by (try simp only [wk, wl, wx, reduceLT, reduceEqDiff, Nat.reduceBEq, reduceIte, hov]); (try simp); (try omega)) ?_
        (try simp only [wk, wl, wx, reduceLT, reduceEqDiff, Nat.reduceBEq, reduceIte])
        ((repeat refine WC.seq ?_); refine WC.run ?_)
        have lke : loadP (E g) he 3 (.ptr ha.next 0) = some (.int .i64 (k : Int)) := (bc.fix fe (by omega)).at ty3 rfl 0
        (try simp only [wk, wl, wx, reduceLT, reduceEqDiff, Nat.reduceBEq, reduceIte, lke])
        refine (bad_ok).mono fun v hd ⟨ed, fd⟩ => ?_
        subst ed
        have xd := fd.next
        (try simp only [wk, wl, wx, reduceLT, reduceEqDiff, Nat.reduceBEq, reduceIte])
        (try simp only [wk, wl, wx, reduceLT, reduceEqDiff, Nat.reduceBEq, reduceIte, t7])
        refine sat_store ((b7.fix F6e (by omega)).fix fd (by omega)) ty35 rfl (Nat.le_refl 2) rfl ?_
        intro hz az nz fz
        have lz : loadP (E g) hz 35 (.ptr h2.next 0) = some (.agg (faultV ((k : Int), 10))) := az.agg ty35 rfl (Nat.le_refl 2)
        (try simp only [wk, wl, wx, reduceLT, reduceEqDiff, Nat.reduceBEq, reduceIte])
        refine WC.ret ?_
        have hPz : ldP x libs N = (none, (k : Int), 10) := by rw [hP, hR2, hNF, if_pos (show (10 : Int) ≠ 0 by decide), if_pos (show (10 : Int) ≠ 0 by decide)]
        (try simp only [wk, wl, wx, reduceLT, reduceEqDiff, Nat.reduceBEq, reduceIte, t7, lz])
        exact ⟨⟨by omega, fun b hb => by rw [fz.same b (by omega), fd.same b (by omega), F6e.same b (by omega), F6.same b hb]⟩, _, by rw [hPz], by rw [hPz]⟩
       | false =>
        rw [if_neg (by rw [hov]; simp)] at hNF
        refine WC.cond (b := false) (by (try simp only [wk, wl, wx, reduceLT, reduceEqDiff, Nat.reduceBEq, reduceIte, hov]); (try simp); (try omega)) (WC.skip ?_)
        (try simp only [wk, wl, wx, reduceLT, reduceEqDiff, Nat.reduceBEq, reduceIte])
        have pme := lme.pm
        have lpe : loadP (E g) he 108 (.ptr pb 0) = some (.slice sb 0 st'.2.length sc) := pme.has.at ty108 rfl 0
        have lke : loadP (E g) he 3 (.ptr ha.next 0) = some (.int .i64 (k : Int)) := (bc.fix fe (by omega)).at ty3 rfl 0
        have ve := vc.fix fe (by omega)
        have lve : loadP (E g) he 108 (.ptr h1.next 0) = some ls := ve.at ty108 rfl 0
        have hLe := (hLc.fix fe fun _ h => h).up (K' := (· < he.next)) fun b hb => by omega
        obtain ⟨q, q1, q2⟩ := hLe.sl.at (fun _ => rfl) ty108 rfl ty32 rfl (by decide) rfl hkL
        have imk := hLe.im _ (List.getElem_mem hkL)
        have fitk := hfit _ (List.getElem_mem hkL)
        rw [hLk] at q2 imk fitk
        have hsb : sb < ha.next := lm.pm.sbt.2.1
        have hP1 := pme.pbt
        have hP2 := pme.sbt
        have hP12 : pb ≠ sb := fun e => by rw [e] at hP1; exact absurd (hP1.2.2.symm.trans hP2.2.2) (by decide)
        have reads : ∀ hh, Fix (fun b => b < he.next ∧ b ≠ sb) he hh → loadP (E g) hh 108 (.ptr pb 0) = some (.slice sb 0 st'.2.length sc) ∧ loadP (E g) hh 3 (.ptr ha.next 0) = some (.int .i64 (k : Int)) ∧ loadP (E g) hh 108 (.ptr h1.next 0) = some ls ∧ loadP (E g) hh 32 q = some (.agg (L[k].1.cells Y)) := fun hh f =>
         ⟨(pme.has.fix f ⟨by omega, hP12⟩).at ty108 rfl 0, ((bc.fix fe (by omega)).fix f ⟨by omega, by omega⟩).at ty3 rfl 0, (ve.fix f ⟨by omega, by omega⟩).at ty108 rfl 0, q2 hh fun b o m c e => f.same b ⟨by have := hL.ins _ _ _ _ e; omega, by have := hL.ins _ _ _ _ e; omega⟩⟩
        have hlim : (st'.2.length + 1) * 120 ≤ 140737488355328 := by omega
        have hlim1 : (st'.1.length + 1) * 8 ≤ 140737488355328 := by rw [inv.len]; omega
        (repeat refine WC.seq ?_)
        refine WC.mono (Q := fun e fr hz => e = .normal ∧ ∃ ts c2 sb' sc' av' tag', fr = ⟨ts, 93, [], 77, none⟩ ∧ LM g 32 h2.next (fun b => h.next ≤ b) hz h6.next pb sb' sc' tag' (cs ++ [c2]) (st'.1 ++ [(k : Int)], st'.2 ++ [Y]) av' ∧ (∀ b, b < he.next → tag' b = tag b) ∧ Fix (fun b => b < he.next ∧ (tag b = 0 ∨ tag b = TT + 1)) he hz ∧ ts.get 2 = some ns ∧ ts.get 4 = some (.ptr h1.next 0) ∧ ts.get 7 = some (.ptr h2.next 0) ∧ ts.get 9 = some (.ptr pb 0) ∧ ts.get 10 = some av' ∧ ts.get 11 = some (.int .i64 i) ∧ ts.get 45 = some ci.needs ∧ ts.get 46 = some (.int .i64 X.needs.length) ∧ ts.get 47 = some (.int .i64 j)) (WC.draw (plans := pl77_18) (by kernel_rfl) ?_) ?_
        ·intro p hp
         simp only [pl77_18, List.mem_cons, List.not_mem_nil, or_false] at hp
         rcases hp with rfl | rfl | rfl | rfl
         ·have FF := Fix.refl (fun b => b < he.next ∧ b ≠ sb) he
          have rd := reads _ FF
          (try simp (maxSteps := 2000000) only [wk, wl, wx, reduceLT, reduceEqDiff, Nat.reduceBEq, reduceIte, wd, Chk, and_true, true_and, t4, t9, t10, fa110_0, Nat.zero_add, q1, rd])
          refine (copied_ok imk fitk).mono fun v hc1 ⟨⟨c2, ec, nw, ix, iN⟩, fcp⟩ => ?_
          subst ec
          have xc := fcp.next
          have FF : Fix (fun b => b < he.next ∧ b ≠ sb) he hc1 := FF.trans (fcp.sub fun b hb => by have := FF.next; omega)
          have rd := reads _ FF
          (try simp (maxSteps := 2000000) only [wk, wl, wx, reduceLT, reduceEqDiff, Nat.reduceBEq, reduceIte, wd, Chk, and_true, true_and, t4, t9, t10, fa110_0, Nat.zero_add, q1, rd])
          have Fy : Fix (· < he.next) he hc1 := fcp
          refine sat_buildSlice (cs := c2.cells Y) ty108 rfl ty32 rfl (by decide) (by decide) (fill7 rfl) rfl ?_
          intro hl bl nl fl
          have FF : Fix (fun b => b < he.next ∧ b ≠ sb) he hl := FF.trans (fl.sub fun b hb => by have := FF.next; omega)
          have rd := reads _ FF
          (try simp (maxSteps := 2000000) only [wk, wl, wx, reduceLT, reduceEqDiff, Nat.reduceBEq, reduceIte, wd, Chk, and_true, true_and, t4, t9, t10, fa110_0, Nat.zero_add, q1, rd])
          have Fc1 : Fix (· < hc1.next) hc1 hl := fl
          have FcA : Fix (· < he.next) he hl := Fy.trans (Fc1.sub fun b hb => by omega)
          have blx := bl
          refine sat_append (m := 1) (ws := c2.cells Y) (lme.buf.fix (K := (· < he.next)) (fun b o n c e => by injection e with e; omega) FcA) ty108 rfl ty108 (.inl ⟨_, rfl⟩) ty32 rfl (by decide) (by decide) (Sl.len blx.sl) (Sl.cells blx.sl) rfl (Ic.one nw.im) hlim (fun b o n c e => by injection e with e; omega) ?_
          intro s' hap ba ia oa fa
          have xa := fa.next
          obtain ⟨sb', sc', rfl, hsc'⟩ := not_one_nil ba.whole ba.sl (by omega)
          have FF : Fix (fun b => b < he.next ∧ b ≠ sb) he hap := FF.trans (fa.sub fun b hb => ⟨by have := FF.next; omega, fun o n c e => by injection e with e; exact hb.2 e.symm⟩)
          have rd := reads _ FF
          (try simp (maxSteps := 2000000) only [wk, wl, wx, reduceLT, reduceEqDiff, Nat.reduceBEq, reduceIte, wd, Chk, and_true, true_and, t4, t9, t10, fa110_0, Nat.zero_add, q1, rd])
          have oa' : sb' = sb ∨ (hc1.next ≤ sb' ∧ sb' < hap.next) := by
           have q := ia _ _ _ _ rfl
           rcases oa _ _ _ _ rfl with r | ⟨o, n, c, r⟩
           ·right; omega
           ·injection r with r; exact .inl r.symm
          have fa' : Fix (fun b => b < hc1.next ∧ b ≠ sb) hc1 hap := (Fc1.sub fun b hb => hb.1).trans (fa.sub fun b hb => ⟨by omega, fun o n c e => by injection e with e; exact hb.2 e.symm⟩)
          have FA : Fix (fun b => b < he.next ∧ b ≠ sb) he hap := (Fy.sub fun b hb => hb.1).trans (fa'.sub fun b hb => ⟨by omega, hb.2⟩)
          refine sat_slice1 (v := i64 (k : Int)) ty211 rfl ty3 rfl rfl rfl ?_
          intro h14 b14 n14 f14
          have FF : Fix (fun b => b < he.next ∧ b ≠ sb) he h14 := FF.trans (f14.sub fun b hb => by have := FF.next; omega)
          have rd := reads _ FF
          (try simp (maxSteps := 2000000) only [wk, wl, wx, reduceLT, reduceEqDiff, Nat.reduceBEq, reduceIte, wd, Chk, and_true, true_and, t4, t9, t10, fa110_0, Nat.zero_add, q1, rd])
          have b14' := b14
          have xA := FA.next
          refine sat_append (m := 1) (ws := [i64 (k : Int)]) ((lme.abuf.fix (K := fun b => b < he.next ∧ b ≠ sb) (fun b o n c e => by have := lme.ain _ _ _ _ e; exact ⟨by omega, fun e' => by rw [e'] at this; exact absurd (this.2.2.symm.trans hP2.2.2) (by decide)⟩) FA).fix (K := (· < hap.next)) (fun b o n c e => by have := lme.ain _ _ _ _ e; have := FA.next; omega) f14) ty211 rfl ty211 (.inl ⟨_, rfl⟩) ty3 rfl (by decide) (by decide) (Sl.len b14'.sl) (Sl.cells b14'.sl) rfl rfl hlim1 (fun b o n c e => by have := lme.ain _ _ _ _ e; omega) ?_
          intro av' hav bv iv ov fv
          have xv := fv.next
          (try simp (maxSteps := 2000000) only [wk, wl, wx, reduceLT, reduceEqDiff, Nat.reduceBEq, reduceIte, wd, Chk, and_true, true_and, t4, t9, t10, fa110_0, Nat.zero_add, q1, rd])
          have ov' : In (fun b => blkOf av = some b ∨ (hap.next ≤ b ∧ b < hav.next)) av' := fun b o n c e => by
           have q := iv _ _ _ _ e
           rcases ov _ _ _ _ e with r | ⟨o, n, c, r⟩
           ·right; omega
           ·left; rw [r]; rfl
          have fv' : Fix (fun b => b < hap.next ∧ blkOf av ≠ some b) hap hav := (f14.sub fun b hb => hb.1).trans (fv.sub fun b hb => ⟨by omega, fun o n c e => hb.2 (by rw [e]; rfl)⟩)
          have pbv : Has hav pb [.slice sb 0 st'.2.length sc] := (pme.has.fix FA ⟨by omega, fun e => by rw [e] at hP1; exact absurd (hP1.2.2.symm.trans hP2.2.2) (by decide)⟩).fix fv' ⟨by omega, fun e => by have := lme.ain.blk e; exact absurd (hP1.2.2.symm.trans this.2.2) (by decide)⟩
          refine sat_store pbv ty108 rfl (Nat.le_refl 1) rfl ?_
          intro hz az nz fz
          have az : Has hz pb [.slice sb' 0 (st'.2.length + 1) sc'] := az
          obtain ⟨tag', lmz, tz, Fz⟩ := lme.fin (hx := he) (by omega) (hy := hc1) (h1 := hap) (h2 := hav) (hz := hz) (k := (k : Int)) (by omega) nw (ix.sub fun b hb => .inr hb) (iN.sub fun b hb => .inr hb) Fy (by omega) fa' fv' fz ba oa' bv ov' az ⟨ix.sub fun b hb => by omega, iN.sub fun b hb => by omega⟩
          (try simp (maxSteps := 2000000) only [wk, wl, wx, reduceLT, reduceEqDiff, Nat.reduceBEq, reduceIte, wd, Chk, and_true, true_and])
          refine ⟨_, c2, sb', sc', av', tag', rfl, lmz, tz, Fz, ?_⟩
          (try simp only [wk, wl, wx, reduceLT, reduceEqDiff, Nat.reduceBEq, reduceIte, t2, t4, t7, t9, t11, t45, t46, t47])
          simp
         ·have FF := Fix.refl (fun b => b < he.next ∧ b ≠ sb) he
          have rd := reads _ FF
          (try simp (maxSteps := 2000000) only [wk, wl, wx, reduceLT, reduceEqDiff, Nat.reduceBEq, reduceIte, wd, Chk, and_true, true_and, t4, t9, t10, fa110_0, Nat.zero_add, q1, rd])
          refine (copied_ok imk fitk).mono fun v hc1 ⟨⟨c2, ec, nw, ix, iN⟩, fcp⟩ => ?_
          subst ec
          have xc := fcp.next
          have FF : Fix (fun b => b < he.next ∧ b ≠ sb) he hc1 := FF.trans (fcp.sub fun b hb => by have := FF.next; omega)
          have rd := reads _ FF
          (try simp (maxSteps := 2000000) only [wk, wl, wx, reduceLT, reduceEqDiff, Nat.reduceBEq, reduceIte, wd, Chk, and_true, true_and, t4, t9, t10, fa110_0, Nat.zero_add, q1, rd])
          have Fy : Fix (· < he.next) he hc1 := fcp
          refine sat_buildSlice (cs := c2.cells Y) ty108 rfl ty32 rfl (by decide) (by decide) (fill7 rfl) rfl ?_
          intro hl bl nl fl
          have FF : Fix (fun b => b < he.next ∧ b ≠ sb) he hl := FF.trans (fl.sub fun b hb => by have := FF.next; omega)
          have rd := reads _ FF
          (try simp (maxSteps := 2000000) only [wk, wl, wx, reduceLT, reduceEqDiff, Nat.reduceBEq, reduceIte, wd, Chk, and_true, true_and, t4, t9, t10, fa110_0, Nat.zero_add, q1, rd])
          refine sat_slice1 (v := i64 (k : Int)) ty211 rfl ty3 rfl rfl rfl ?_
          intro h14 b14 n14 f14
          have FF : Fix (fun b => b < he.next ∧ b ≠ sb) he h14 := FF.trans (f14.sub fun b hb => by have := FF.next; omega)
          have rd := reads _ FF
          (try simp (maxSteps := 2000000) only [wk, wl, wx, reduceLT, reduceEqDiff, Nat.reduceBEq, reduceIte, wd, Chk, and_true, true_and, t4, t9, t10, fa110_0, Nat.zero_add, q1, rd])
          have Fc1 : Fix (· < hc1.next) hc1 h14 := fl.trans (f14.sub fun b hb => by omega)
          have FcA : Fix (· < he.next) he h14 := Fy.trans (Fc1.sub fun b hb => by omega)
          have blx := (bl.fix (K := (· < hl.next)) (fun b o n c e => by injection e with e; omega) f14)
          refine sat_append (m := 1) (ws := c2.cells Y) (lme.buf.fix (K := (· < he.next)) (fun b o n c e => by injection e with e; omega) FcA) ty108 rfl ty108 (.inl ⟨_, rfl⟩) ty32 rfl (by decide) (by decide) (Sl.len blx.sl) (Sl.cells blx.sl) rfl (Ic.one nw.im) hlim (fun b o n c e => by injection e with e; omega) ?_
          intro s' hap ba ia oa fa
          have xa := fa.next
          obtain ⟨sb', sc', rfl, hsc'⟩ := not_one_nil ba.whole ba.sl (by omega)
          have FF : Fix (fun b => b < he.next ∧ b ≠ sb) he hap := FF.trans (fa.sub fun b hb => ⟨by have := FF.next; omega, fun o n c e => by injection e with e; exact hb.2 e.symm⟩)
          have rd := reads _ FF
          (try simp (maxSteps := 2000000) only [wk, wl, wx, reduceLT, reduceEqDiff, Nat.reduceBEq, reduceIte, wd, Chk, and_true, true_and, t4, t9, t10, fa110_0, Nat.zero_add, q1, rd])
          have oa' : sb' = sb ∨ (hc1.next ≤ sb' ∧ sb' < hap.next) := by
           have q := ia _ _ _ _ rfl
           rcases oa _ _ _ _ rfl with r | ⟨o, n, c, r⟩
           ·right; omega
           ·injection r with r; exact .inl r.symm
          have fa' : Fix (fun b => b < hc1.next ∧ b ≠ sb) hc1 hap := (Fc1.sub fun b hb => hb.1).trans (fa.sub fun b hb => ⟨by omega, fun o n c e => by injection e with e; exact hb.2 e.symm⟩)
          have FA : Fix (fun b => b < he.next ∧ b ≠ sb) he hap := (Fy.sub fun b hb => hb.1).trans (fa'.sub fun b hb => ⟨by omega, hb.2⟩)
          have b14' := (b14.fix (K := fun c => c < h14.next ∧ ∀ o k cc, V.slice sb 0 st'.2.length sc ≠ .slice c o k cc) (fun b o n c e => by injection e with e; exact ⟨by omega, fun o n c r => by injection r with r; omega⟩) fa)
          have xA := FA.next
          refine sat_append (m := 1) (ws := [i64 (k : Int)]) (lme.abuf.fix (K := fun b => b < he.next ∧ b ≠ sb) (fun b o n c e => by have := lme.ain _ _ _ _ e; exact ⟨by omega, fun e' => by rw [e'] at this; exact absurd (this.2.2.symm.trans hP2.2.2) (by decide)⟩) FA) ty211 rfl ty211 (.inl ⟨_, rfl⟩) ty3 rfl (by decide) (by decide) (Sl.len b14'.sl) (Sl.cells b14'.sl) rfl rfl hlim1 (fun b o n c e => by have := lme.ain _ _ _ _ e; omega) ?_
          intro av' hav bv iv ov fv
          have xv := fv.next
          (try simp (maxSteps := 2000000) only [wk, wl, wx, reduceLT, reduceEqDiff, Nat.reduceBEq, reduceIte, wd, Chk, and_true, true_and, t4, t9, t10, fa110_0, Nat.zero_add, q1, rd])
          have ov' : In (fun b => blkOf av = some b ∨ (hap.next ≤ b ∧ b < hav.next)) av' := fun b o n c e => by
           have q := iv _ _ _ _ e
           rcases ov _ _ _ _ e with r | ⟨o, n, c, r⟩
           ·right; omega
           ·left; rw [r]; rfl
          have fv' : Fix (fun b => b < hap.next ∧ blkOf av ≠ some b) hap hav := fv.sub fun b hb => ⟨by omega, fun o n c e => hb.2 (by rw [e]; rfl)⟩
          have pbv : Has hav pb [.slice sb 0 st'.2.length sc] := (pme.has.fix FA ⟨by omega, fun e => by rw [e] at hP1; exact absurd (hP1.2.2.symm.trans hP2.2.2) (by decide)⟩).fix fv' ⟨by omega, fun e => by have := lme.ain.blk e; exact absurd (hP1.2.2.symm.trans this.2.2) (by decide)⟩
          refine sat_store pbv ty108 rfl (Nat.le_refl 1) rfl ?_
          intro hz az nz fz
          have az : Has hz pb [.slice sb' 0 (st'.2.length + 1) sc'] := az
          obtain ⟨tag', lmz, tz, Fz⟩ := lme.fin (hx := he) (by omega) (hy := hc1) (h1 := hap) (h2 := hav) (hz := hz) (k := (k : Int)) (by omega) nw (ix.sub fun b hb => .inr hb) (iN.sub fun b hb => .inr hb) Fy (by omega) fa' fv' fz ba oa' bv ov' az ⟨ix.sub fun b hb => by omega, iN.sub fun b hb => by omega⟩
          (try simp (maxSteps := 2000000) only [wk, wl, wx, reduceLT, reduceEqDiff, Nat.reduceBEq, reduceIte, wd, Chk, and_true, true_and])
          refine ⟨_, c2, sb', sc', av', tag', rfl, lmz, tz, Fz, ?_⟩
          (try simp only [wk, wl, wx, reduceLT, reduceEqDiff, Nat.reduceBEq, reduceIte, t2, t4, t7, t9, t11, t45, t46, t47])
          simp
         ·have FF := Fix.refl (fun b => b < he.next ∧ b ≠ sb) he
          have rd := reads _ FF
          (try simp (maxSteps := 2000000) only [wk, wl, wx, reduceLT, reduceEqDiff, Nat.reduceBEq, reduceIte, wd, Chk, and_true, true_and, t4, t9, t10, fa110_0, Nat.zero_add, q1, rd])
          refine (copied_ok imk fitk).mono fun v hc1 ⟨⟨c2, ec, nw, ix, iN⟩, fcp⟩ => ?_
          subst ec
          have xc := fcp.next
          have FF : Fix (fun b => b < he.next ∧ b ≠ sb) he hc1 := FF.trans (fcp.sub fun b hb => by have := FF.next; omega)
          have rd := reads _ FF
          (try simp (maxSteps := 2000000) only [wk, wl, wx, reduceLT, reduceEqDiff, Nat.reduceBEq, reduceIte, wd, Chk, and_true, true_and, t4, t9, t10, fa110_0, Nat.zero_add, q1, rd])
          have Fy : Fix (· < he.next) he hc1 := fcp
          refine sat_slice1 (v := i64 (k : Int)) ty211 rfl ty3 rfl rfl rfl ?_
          intro h14 b14 n14 f14
          have FF : Fix (fun b => b < he.next ∧ b ≠ sb) he h14 := FF.trans (f14.sub fun b hb => by have := FF.next; omega)
          have rd := reads _ FF
          (try simp (maxSteps := 2000000) only [wk, wl, wx, reduceLT, reduceEqDiff, Nat.reduceBEq, reduceIte, wd, Chk, and_true, true_and, t4, t9, t10, fa110_0, Nat.zero_add, q1, rd])
          refine sat_buildSlice (cs := c2.cells Y) ty108 rfl ty32 rfl (by decide) (by decide) (fill7 rfl) rfl ?_
          intro hl bl nl fl
          have FF : Fix (fun b => b < he.next ∧ b ≠ sb) he hl := FF.trans (fl.sub fun b hb => by have := FF.next; omega)
          have rd := reads _ FF
          (try simp (maxSteps := 2000000) only [wk, wl, wx, reduceLT, reduceEqDiff, Nat.reduceBEq, reduceIte, wd, Chk, and_true, true_and, t4, t9, t10, fa110_0, Nat.zero_add, q1, rd])
          have Fc1 : Fix (· < hc1.next) hc1 hl := f14.trans (fl.sub fun b hb => by omega)
          have FcA : Fix (· < he.next) he hl := Fy.trans (Fc1.sub fun b hb => by omega)
          have blx := bl
          refine sat_append (m := 1) (ws := c2.cells Y) (lme.buf.fix (K := (· < he.next)) (fun b o n c e => by injection e with e; omega) FcA) ty108 rfl ty108 (.inl ⟨_, rfl⟩) ty32 rfl (by decide) (by decide) (Sl.len blx.sl) (Sl.cells blx.sl) rfl (Ic.one nw.im) hlim (fun b o n c e => by injection e with e; omega) ?_
          intro s' hap ba ia oa fa
          have xa := fa.next
          obtain ⟨sb', sc', rfl, hsc'⟩ := not_one_nil ba.whole ba.sl (by omega)
          have FF : Fix (fun b => b < he.next ∧ b ≠ sb) he hap := FF.trans (fa.sub fun b hb => ⟨by have := FF.next; omega, fun o n c e => by injection e with e; exact hb.2 e.symm⟩)
          have rd := reads _ FF
          (try simp (maxSteps := 2000000) only [wk, wl, wx, reduceLT, reduceEqDiff, Nat.reduceBEq, reduceIte, wd, Chk, and_true, true_and, t4, t9, t10, fa110_0, Nat.zero_add, q1, rd])
          have oa' : sb' = sb ∨ (hc1.next ≤ sb' ∧ sb' < hap.next) := by
           have q := ia _ _ _ _ rfl
           rcases oa _ _ _ _ rfl with r | ⟨o, n, c, r⟩
           ·right; omega
           ·injection r with r; exact .inl r.symm
          have fa' : Fix (fun b => b < hc1.next ∧ b ≠ sb) hc1 hap := (Fc1.sub fun b hb => hb.1).trans (fa.sub fun b hb => ⟨by omega, fun o n c e => by injection e with e; exact hb.2 e.symm⟩)
          have FA : Fix (fun b => b < he.next ∧ b ≠ sb) he hap := (Fy.sub fun b hb => hb.1).trans (fa'.sub fun b hb => ⟨by omega, hb.2⟩)
          have b14' := ((b14.fix (K := (· < h14.next)) (fun b o n c e => by injection e with e; omega) fl).fix (K := fun c => c < hl.next ∧ ∀ o k cc, V.slice sb 0 st'.2.length sc ≠ .slice c o k cc) (fun b o n c e => by injection e with e; exact ⟨by omega, fun o n c r => by injection r with r; omega⟩) fa)
          have xA := FA.next
          refine sat_append (m := 1) (ws := [i64 (k : Int)]) (lme.abuf.fix (K := fun b => b < he.next ∧ b ≠ sb) (fun b o n c e => by have := lme.ain _ _ _ _ e; exact ⟨by omega, fun e' => by rw [e'] at this; exact absurd (this.2.2.symm.trans hP2.2.2) (by decide)⟩) FA) ty211 rfl ty211 (.inl ⟨_, rfl⟩) ty3 rfl (by decide) (by decide) (Sl.len b14'.sl) (Sl.cells b14'.sl) rfl rfl hlim1 (fun b o n c e => by have := lme.ain _ _ _ _ e; omega) ?_
          intro av' hav bv iv ov fv
          have xv := fv.next
          (try simp (maxSteps := 2000000) only [wk, wl, wx, reduceLT, reduceEqDiff, Nat.reduceBEq, reduceIte, wd, Chk, and_true, true_and, t4, t9, t10, fa110_0, Nat.zero_add, q1, rd])
          have ov' : In (fun b => blkOf av = some b ∨ (hap.next ≤ b ∧ b < hav.next)) av' := fun b o n c e => by
           have q := iv _ _ _ _ e
           rcases ov _ _ _ _ e with r | ⟨o, n, c, r⟩
           ·right; omega
           ·left; rw [r]; rfl
          have fv' : Fix (fun b => b < hap.next ∧ blkOf av ≠ some b) hap hav := fv.sub fun b hb => ⟨by omega, fun o n c e => hb.2 (by rw [e]; rfl)⟩
          have pbv : Has hav pb [.slice sb 0 st'.2.length sc] := (pme.has.fix FA ⟨by omega, fun e => by rw [e] at hP1; exact absurd (hP1.2.2.symm.trans hP2.2.2) (by decide)⟩).fix fv' ⟨by omega, fun e => by have := lme.ain.blk e; exact absurd (hP1.2.2.symm.trans this.2.2) (by decide)⟩
          refine sat_store pbv ty108 rfl (Nat.le_refl 1) rfl ?_
          intro hz az nz fz
          have az : Has hz pb [.slice sb' 0 (st'.2.length + 1) sc'] := az
          obtain ⟨tag', lmz, tz, Fz⟩ := lme.fin (hx := he) (by omega) (hy := hc1) (h1 := hap) (h2 := hav) (hz := hz) (k := (k : Int)) (by omega) nw (ix.sub fun b hb => .inr hb) (iN.sub fun b hb => .inr hb) Fy (by omega) fa' fv' fz ba oa' bv ov' az ⟨ix.sub fun b hb => by omega, iN.sub fun b hb => by omega⟩
          (try simp (maxSteps := 2000000) only [wk, wl, wx, reduceLT, reduceEqDiff, Nat.reduceBEq, reduceIte, wd, Chk, and_true, true_and])
          refine ⟨_, c2, sb', sc', av', tag', rfl, lmz, tz, Fz, ?_⟩
          (try simp only [wk, wl, wx, reduceLT, reduceEqDiff, Nat.reduceBEq, reduceIte, t2, t4, t7, t9, t11, t45, t46, t47])
          simp
         ·have FF := Fix.refl (fun b => b < he.next ∧ b ≠ sb) he
          have rd := reads _ FF
          (try simp (maxSteps := 2000000) only [wk, wl, wx, reduceLT, reduceEqDiff, Nat.reduceBEq, reduceIte, wd, Chk, and_true, true_and, t4, t9, t10, fa110_0, Nat.zero_add, q1, rd])
          refine sat_slice1 (v := i64 (k : Int)) ty211 rfl ty3 rfl rfl rfl ?_
          intro h14 b14 n14 f14
          have FF : Fix (fun b => b < he.next ∧ b ≠ sb) he h14 := FF.trans (f14.sub fun b hb => by have := FF.next; omega)
          have rd := reads _ FF
          (try simp (maxSteps := 2000000) only [wk, wl, wx, reduceLT, reduceEqDiff, Nat.reduceBEq, reduceIte, wd, Chk, and_true, true_and, t4, t9, t10, fa110_0, Nat.zero_add, q1, rd])
          refine (copied_ok ((imk.fix f14 fun _ h => h).up fun b hb => by omega) fitk).mono fun v hc1 ⟨⟨c2, ec, nw, ix, iN⟩, fcp⟩ => ?_
          subst ec
          have xc := fcp.next
          have FF : Fix (fun b => b < he.next ∧ b ≠ sb) he hc1 := FF.trans (fcp.sub fun b hb => by have := FF.next; omega)
          have rd := reads _ FF
          (try simp (maxSteps := 2000000) only [wk, wl, wx, reduceLT, reduceEqDiff, Nat.reduceBEq, reduceIte, wd, Chk, and_true, true_and, t4, t9, t10, fa110_0, Nat.zero_add, q1, rd])
          have Fy : Fix (· < he.next) he hc1 := f14.trans (fcp.sub fun b hb => by omega)
          refine sat_buildSlice (cs := c2.cells Y) ty108 rfl ty32 rfl (by decide) (by decide) (fill7 rfl) rfl ?_
          intro hl bl nl fl
          have FF : Fix (fun b => b < he.next ∧ b ≠ sb) he hl := FF.trans (fl.sub fun b hb => by have := FF.next; omega)
          have rd := reads _ FF
          (try simp (maxSteps := 2000000) only [wk, wl, wx, reduceLT, reduceEqDiff, Nat.reduceBEq, reduceIte, wd, Chk, and_true, true_and, t4, t9, t10, fa110_0, Nat.zero_add, q1, rd])
          have Fc1 : Fix (· < hc1.next) hc1 hl := fl
          have FcA : Fix (· < he.next) he hl := Fy.trans (Fc1.sub fun b hb => by omega)
          have blx := bl
          refine sat_append (m := 1) (ws := c2.cells Y) (lme.buf.fix (K := (· < he.next)) (fun b o n c e => by injection e with e; omega) FcA) ty108 rfl ty108 (.inl ⟨_, rfl⟩) ty32 rfl (by decide) (by decide) (Sl.len blx.sl) (Sl.cells blx.sl) rfl (Ic.one nw.im) hlim (fun b o n c e => by injection e with e; omega) ?_
          intro s' hap ba ia oa fa
          have xa := fa.next
          obtain ⟨sb', sc', rfl, hsc'⟩ := not_one_nil ba.whole ba.sl (by omega)
          have FF : Fix (fun b => b < he.next ∧ b ≠ sb) he hap := FF.trans (fa.sub fun b hb => ⟨by have := FF.next; omega, fun o n c e => by injection e with e; exact hb.2 e.symm⟩)
          have rd := reads _ FF
          (try simp (maxSteps := 2000000) only [wk, wl, wx, reduceLT, reduceEqDiff, Nat.reduceBEq, reduceIte, wd, Chk, and_true, true_and, t4, t9, t10, fa110_0, Nat.zero_add, q1, rd])
          have oa' : sb' = sb ∨ (hc1.next ≤ sb' ∧ sb' < hap.next) := by
           have q := ia _ _ _ _ rfl
           rcases oa _ _ _ _ rfl with r | ⟨o, n, c, r⟩
           ·right; omega
           ·injection r with r; exact .inl r.symm
          have fa' : Fix (fun b => b < hc1.next ∧ b ≠ sb) hc1 hap := (Fc1.sub fun b hb => hb.1).trans (fa.sub fun b hb => ⟨by omega, fun o n c e => by injection e with e; exact hb.2 e.symm⟩)
          have FA : Fix (fun b => b < he.next ∧ b ≠ sb) he hap := (Fy.sub fun b hb => hb.1).trans (fa'.sub fun b hb => ⟨by omega, hb.2⟩)
          have b14' := (((b14.fix (K := (· < h14.next)) (fun b o n c e => by injection e with e; omega) fcp).fix (K := (· < hc1.next)) (fun b o n c e => by injection e with e; omega) fl).fix (K := fun c => c < hl.next ∧ ∀ o k cc, V.slice sb 0 st'.2.length sc ≠ .slice c o k cc) (fun b o n c e => by injection e with e; exact ⟨by omega, fun o n c r => by injection r with r; omega⟩) fa)
          have xA := FA.next
          refine sat_append (m := 1) (ws := [i64 (k : Int)]) (lme.abuf.fix (K := fun b => b < he.next ∧ b ≠ sb) (fun b o n c e => by have := lme.ain _ _ _ _ e; exact ⟨by omega, fun e' => by rw [e'] at this; exact absurd (this.2.2.symm.trans hP2.2.2) (by decide)⟩) FA) ty211 rfl ty211 (.inl ⟨_, rfl⟩) ty3 rfl (by decide) (by decide) (Sl.len b14'.sl) (Sl.cells b14'.sl) rfl rfl hlim1 (fun b o n c e => by have := lme.ain _ _ _ _ e; omega) ?_
          intro av' hav bv iv ov fv
          have xv := fv.next
          (try simp (maxSteps := 2000000) only [wk, wl, wx, reduceLT, reduceEqDiff, Nat.reduceBEq, reduceIte, wd, Chk, and_true, true_and, t4, t9, t10, fa110_0, Nat.zero_add, q1, rd])
          have ov' : In (fun b => blkOf av = some b ∨ (hap.next ≤ b ∧ b < hav.next)) av' := fun b o n c e => by
           have q := iv _ _ _ _ e
           rcases ov _ _ _ _ e with r | ⟨o, n, c, r⟩
           ·right; omega
           ·left; rw [r]; rfl
          have fv' : Fix (fun b => b < hap.next ∧ blkOf av ≠ some b) hap hav := fv.sub fun b hb => ⟨by omega, fun o n c e => hb.2 (by rw [e]; rfl)⟩
          have pbv : Has hav pb [.slice sb 0 st'.2.length sc] := (pme.has.fix FA ⟨by omega, fun e => by rw [e] at hP1; exact absurd (hP1.2.2.symm.trans hP2.2.2) (by decide)⟩).fix fv' ⟨by omega, fun e => by have := lme.ain.blk e; exact absurd (hP1.2.2.symm.trans this.2.2) (by decide)⟩
          refine sat_store pbv ty108 rfl (Nat.le_refl 1) rfl ?_
          intro hz az nz fz
          have az : Has hz pb [.slice sb' 0 (st'.2.length + 1) sc'] := az
          obtain ⟨tag', lmz, tz, Fz⟩ := lme.fin (hx := h14) (by omega) (hy := hc1) (h1 := hap) (h2 := hav) (hz := hz) (k := (k : Int)) (by omega) nw (ix.sub fun b hb => .inr hb) (iN.sub fun b hb => .inr hb) Fy (by omega) fa' fv' fz ba oa' bv ov' az ⟨ix.sub fun b hb => by omega, iN.sub fun b hb => by omega⟩
          (try simp (maxSteps := 2000000) only [wk, wl, wx, reduceLT, reduceEqDiff, Nat.reduceBEq, reduceIte, wd, Chk, and_true, true_and])
          refine ⟨_, c2, sb', sc', av', tag', rfl, lmz, tz, Fz, ?_⟩
          (try simp only [wk, wl, wx, reduceLT, reduceEqDiff, Nat.reduceBEq, reduceIte, t2, t4, t7, t9, t11, t45, t46, t47])
          simp
        ·rintro e fr hz ⟨rfl, ts, c2, sb', sc', av', tag', rfl, lmz, tz, Fz, t2', t4', t7', t9', t10', t11', t45', t46', t47'⟩
         have xz := Fz.next
         have F6z : Fix (· < h6.next) h6 hz := F6e.trans (Fz.sub fun b hb => ⟨by omega, lm.zz hb⟩)
         (try simp only [wk, wl, wx, reduceLT, reduceEqDiff, Nat.reduceBEq, reduceIte])
         ((repeat refine WC.seq ?_); refine WC.run ?_)
         (try simp only [wk, wl, wx, reduceLT, reduceEqDiff, Nat.reduceBEq, reduceIte, t47', bin_add])
         refine ⟨_, ?_, _, j + 1, _, _, tag', av', sb', sc', rfl, lmz, F6z, rfl, by omega, inv.snoc gl hyk hct, by simp; omega, by rw [List.getElem?_append_left (by rw [inv.len]; exact hist)]; exact hai', hNF, Sl.fix (Sl.fix (Sl.fix nds (nin.sub fun b hb => hb.1) Fc) (nin.sub fun b hb => by omega) fe) (K := fun b => b < he.next ∧ (tag b = 0 ∨ tag b = TT + 1)) (nin.sub fun b hb => ⟨by omega, .inl hb.2⟩) Fz, nin.sub fun b hb => ⟨by omega, by rw [tz b (by omega)]; exact hb.2⟩, ?_⟩
         ·omega
         (try simp only [wk, wl, wx, reduceLT, reduceEqDiff, Nat.reduceBEq, reduceIte, t2', t4', t7', t9', t10', t11', t45', t46'])
         refine ⟨trivial, trivial, trivial, trivial, trivial, trivial, trivial, trivial, ?_⟩
         rw [wrap64 (by omega) (by omega)]; rfl
    ·refine WC.cond (b := false) (by (try simp only [wk, wl, wx, reduceLT, reduceEqDiff, Nat.reduceBEq, reduceIte]); (try simp); (try omega)) (WC.exit ?_)
     have : j = X.needs.length := by omega
     subst this
     (try simp only [wk, wl, wx, reduceLT, reduceEqDiff, Nat.reduceBEq, reduceIte, show Nat.beq 2 2 = true from rfl])
     have hdone : needF N libs A X.needs st = (st', 0, 0) := by rw [hNF, List.drop_length, needF]
     rw [hdone, if_neg (by simp)] at hR2
     ((repeat refine WC.seq ?_); refine WC.run ?_)
     (try simp only [wk, wl, wx, reduceLT, reduceEqDiff, Nat.reduceBEq, reduceIte, t11, bin_add])
     refine ⟨_, ?_, _, i + 1, st', cs, tag, av, pb, sb, sc, rfl, lm, fq, rfl, by omega, inv, hR2, ?_⟩
     ·omega
     (try simp only [wk, wl, wx, reduceLT, reduceEqDiff, Nat.reduceBEq, reduceIte, t2, t4, t7, t9, t10])
     refine ⟨trivial, trivial, trivial, trivial, trivial, ?_⟩
     rw [wrap64 (by omega) (by omega)]; rfl
   all_goals (try simp only [wk, wl, wx, reduceLT, reduceEqDiff, Nat.reduceBEq, reduceIte, t2, t4, t7, t9, t10, t11])
   all_goals (first | done | rfl | trivial | simp)
  ·refine WC.cond (b := false) (by (try simp only [wk, wl, wx, reduceLT, reduceEqDiff, Nat.reduceBEq, reduceIte]); (try simp); (try omega)) (WC.exit ?_)
   (try simp only [wk, wl, wx, reduceLT, reduceEqDiff, Nat.reduceBEq, reduceIte])
   have hdone : loadR x libs N = (st, 0, 0) := by rw [hR, show 60 - i = (60 - (i + 1)) + 1 from by omega, loadF, List.getElem?_eq_none (by omega : st.2.length ≤ i)]
   have hPz : ldP x libs N = (some st.2, 0, 0) := by rw [hP, hdone, if_neg (by simp)]
   ((repeat refine WC.seq ?_); refine WC.run ?_)
   (try simp only [wk, wl, wx, reduceLT, reduceEqDiff, Nat.reduceBEq, reduceIte, t9, t7, build73_0])
   refine sat_store (b7.fix ff (by omega)) ty35 rfl (Nat.le_refl 2) rfl ?_
   intro hz az nz fz
   have lz : loadP (E g) hz 35 (.ptr h2.next 0) = some (.agg (faultV (0, 0))) := az.agg ty35 rfl (Nat.le_refl 2)
   (try simp only [wk, wl, wx, reduceLT, reduceEqDiff, Nat.reduceBEq, reduceIte, t7])
   refine WC.ret ?_
   (try simp only [wk, wl, wx, reduceLT, reduceEqDiff, Nat.reduceBEq, reduceIte, t7, lz])
   refine ⟨⟨by omega, fun b hb => by rw [fz.same b (by omega), ff.same b (by omega), F6.same b hb]⟩, .ptr pb 0, by rw [hPz], ?_⟩
   rw [hPz]
   exact ⟨pb, sb, sc, tag, cs, rfl, (lm.fault (by omega) fz).low (by omega), lm.xx⟩
 all_goals (try simp only [wk, wl, wx, reduceLT, reduceEqDiff, Nat.reduceBEq, reduceIte])
 all_goals (first | done | rfl | trivial | simp)
end Go.Proofs.OP
