/- Walks: the law of lazy binding. -/
import Derived.Test.YtloblhhnlaaajaaDoorV15
import Derived.Test.YtloblhhnlaaajaaDoorV40
import Derived.Test.YtloblhhnlaaajaaDoorV39
set_option linter.unusedVariables false
set_option linter.unusedSimpArgs false
set_option linter.defProp false
set_option linter.unusedSimpArgs false
namespace Go.Proofs.OP
open Go Go.Ev
open Go.Proofs
open Nat (reduceLT reduceEqDiff)
variable {g : T (List V)}

theorem fewI_fits {x : ImgD} (h : fewI x = true) : FitsI x := by
 simp only [fewI, Bool.and_eq_true, decide_eq_true_eq] at h
 obtain ⟨-, -, -, h1, h2, h3, h4⟩ := h
 exact ⟨by omega, by omega, by omega, by omega⟩
theorem ldP_ok {x : ImgD} {libs : List ImgD} {N : List (List UInt8)} (h : (ldP x libs N).2.2 = 0) : ∃ xs, (ldP x libs N).1 = some xs := by
 unfold ldP at h ⊢
 split at h
 ·rename_i hg; exact absurd h hg
 ·rename_i hg
  rw [if_neg hg]
  split at h
  ·rename_i hr; exact absurd h hr
  ·rename_i hr
   rw [if_neg hr]
   exact ⟨_, rfl⟩

set_option maxRecDepth 100000 in
set_option maxHeartbeats 8000000 in
theorem lazy_ok {h : H} {c : Ic} {ls ns us : V} {x : ImgD} {L : List (Ic × ImgD)} {N : List (List UInt8)} {U : List UseD} (a : LdM g h (· < h.next) c ls ns x L N) (r : LdR x L N) (hU : Rcs (E g) h 3 useV us U) (inU : In (· < h.next) us) (lU : U.length < 2 ^ 62) :
  WF (E g) 7 [.agg (ldC c x ls ns), us] h fun v _ => v = .bool true := by
 refine WF.enter fn7 rfl ?_
 ((repeat refine WC.seq ?_); refine WC.run ?_)
 (try simp only [wk, wl, wx, reduceLT, reduceEqDiff, Nat.reduceBEq, reduceIte])
 refine wop_box (v := .agg (ldC c x ls ns)) (by (try simp only [wk, wl, wx, reduceLT, reduceEqDiff, Nat.reduceBEq, reduceIte])) ?_
 intro h1 b1 n1 f1
 have b1 : Has h1 h.next (ldC c x ls ns) := b1
 (try simp only [wk, wl, wx, reduceLT, reduceEqDiff, Nat.reduceBEq, reduceIte])
 have a1 := (a.fix f1 fun _ h => h)
 have U1 : Rcs (E g) h1 3 useV us U := Sl.fix hU inU f1
 have lv : ∀ h', Fix (· < h1.next) h1 h' → loadP (E g) h' 85 (.ptr h.next 0) = some (.agg (ldC c x ls ns)) := fun h' f =>
  (b1.fix f (by omega)).agg ty85 rfl (o := 0) (Nat.le_refl 9)
 ((repeat refine WC.seq ?_); refine WC.run ?_)
 (try simp only [wk, wl, wx, reduceLT, reduceEqDiff, Nat.reduceBEq, reduceIte, lv h1 (Fix.refl _ _)])
 refine (fewLd_ok (a1.up fun b hb => by omega) r).mono fun v h2 ⟨e2, f2⟩ => ?_
 subst e2
 have x2 := f2.next
 have U2 : Rcs (E g) h2 3 useV us U := Sl.fix U1 (inU.sub fun b hb => by omega) f2
 have a2 := a1.fix f2 fun b hb => by omega
 cases hf : fewLd x L N with
 | false =>
  (try simp only [wk, wl, wx, reduceLT, reduceEqDiff, Nat.reduceBEq, reduceIte, Bool.not_false, un])
  (repeat refine WC.seq ?_)
  refine WC.cond (b := true) (by (try simp only [wk, wl, wx, reduceLT, reduceEqDiff, Nat.reduceBEq, reduceIte]); (try simp); (try omega)) ?_
  ((repeat refine WC.seq ?_); refine WC.run ?_)
  (try simp only [wk, wl, wx, reduceLT, reduceEqDiff, Nat.reduceBEq, reduceIte])
  refine awake_ok ?_
  (try simp only [wk, wl, wx, reduceLT, reduceEqDiff, Nat.reduceBEq, reduceIte])
  refine WC.ret ?_
  (try simp only [wk, wl, wx, reduceLT, reduceEqDiff, Nat.reduceBEq, reduceIte])
 | true =>
 by_cases hbig : (40 : Int) < U.length
 ·(try simp only [wk, wl, wx, reduceLT, reduceEqDiff, Nat.reduceBEq, reduceIte, Bool.not_true, un, Sl.lenB U2 ty86 rfl, decide_eq_true hbig])
  (repeat refine WC.seq ?_)
  refine WC.cond (b := true) (by (try simp only [wk, wl, wx, reduceLT, reduceEqDiff, Nat.reduceBEq, reduceIte]); (try simp); (try omega)) ?_
  ((repeat refine WC.seq ?_); refine WC.run ?_)
  (try simp only [wk, wl, wx, reduceLT, reduceEqDiff, Nat.reduceBEq, reduceIte])
  refine awake_ok ?_
  (try simp only [wk, wl, wx, reduceLT, reduceEqDiff, Nat.reduceBEq, reduceIte])
  refine WC.ret ?_
  (try simp only [wk, wl, wx, reduceLT, reduceEqDiff, Nat.reduceBEq, reduceIte])
 (try simp only [wk, wl, wx, reduceLT, reduceEqDiff, Nat.reduceBEq, reduceIte, Bool.not_true, un, Sl.lenB U2 ty86 rfl, decide_eq_false hbig])
 (repeat refine WC.seq ?_)
 refine WC.cond (b := false) (by (try simp only [wk, wl, wx, reduceLT, reduceEqDiff, Nat.reduceBEq, reduceIte]); (try simp); (try omega)) (WC.skip ?_)
 (try simp only [wk, wl, wx, reduceLT, reduceEqDiff, Nat.reduceBEq, reduceIte])
 have hfew := hf
 simp only [fewLd, Bool.and_eq_true, List.all_eq_true, decide_eq_true_eq] at hfew
 obtain ⟨hf1, hf2, hf3, hf4, hf5⟩ := hfew
 ((repeat refine WC.seq ?_); refine WC.run ?_)
 (try simp only [wk, wl, wx, reduceLT, reduceEqDiff, Nat.reduceBEq, reduceIte, lv h2 f2])
 refine (load24_ok (K := (· < h.next)) (fun b hb => by omega) a2 (fewI_fits hf3) (fun p hp => fewI_fits (hf1 p hp)) (by omega) (by omega)).mono fun v h3 ⟨f3, p, q, e3, hpq⟩ => ?_
 subst e3
 have x3 := f3.next
 (try simp only [wk, wl, wx, reduceLT, reduceEqDiff, Nat.reduceBEq, reduceIte])
 refine wop_alloc ty35 ?_
 intro h4 b4 n4 f4
 (try simp only [wk, wl, wx, reduceLT, reduceEqDiff, Nat.reduceBEq, reduceIte])
 refine wop_alloc ty35 ?_
 intro h5 b5 n5 f5
 (try simp only [wk, wl, wx, reduceLT, reduceEqDiff, Nat.reduceBEq, reduceIte])
 refine sat_store (b4.fix f5 (by omega)) ty35 rfl (Nat.le_refl 2) rfl ?_
 intro h6 b6 n6 f6
 have b6 : Has h6 h3.next (faultV (ldP x (L.map (·.2)) N).2) := b6
 (try simp only [wk, wl, wx, reduceLT, reduceEqDiff, Nat.reduceBEq, reduceIte])
 refine sat_store (b5.fix f6 (by omega)) ty35 rfl (Nat.le_refl 2) rfl ?_
 intro h7 b7 n7 f7
 (try simp only [wk, wl, wx, reduceLT, reduceEqDiff, Nat.reduceBEq, reduceIte])
 have F7 : Kept h3 h7 := ⟨by omega, fun b hb => by rw [f7.same b (by omega), f6.same b (by omega), f5.same b (by omega), f4.same b hb]⟩
 have F27 : Kept h2 h7 := f3.trans (F7.sub fun b hb => by omega)
 have b67 := b6.fix f7 (by omega)
 ((repeat refine WC.seq ?_); refine WC.run ?_)
 (try simp only [wk, wl, wx, reduceLT, reduceEqDiff, Nat.reduceBEq, reduceIte, lv h7 (f2.trans (F27.sub fun b hb => by omega))])
 refine (load24_ok (K := (· < h.next)) (fun b hb => by omega) (a2.fix F27 fun b hb => by omega) (fewI_fits hf3) (fun p hp => fewI_fits (hf1 p hp)) (by omega) (by omega)).mono fun v h8 ⟨f8, p', q', e8, hpq'⟩ => ?_
 subst e8
 have x8 := f8.next
 (try simp only [wk, wl, wx, reduceLT, reduceEqDiff, Nat.reduceBEq, reduceIte])
 refine wop_alloc ty35 ?_
 intro h9 b9 n9 f9
 (try simp only [wk, wl, wx, reduceLT, reduceEqDiff, Nat.reduceBEq, reduceIte])
 refine wop_alloc ty35 ?_
 intro h10 b10 n10 f10
 (try simp only [wk, wl, wx, reduceLT, reduceEqDiff, Nat.reduceBEq, reduceIte])
 refine sat_store (b9.fix f10 (by omega)) ty35 rfl (Nat.le_refl 2) rfl ?_
 intro h11 b11 n11 f11
 have b11 : Has h11 h8.next (faultV (ldP x (L.map (·.2)) N).2) := b11
 (try simp only [wk, wl, wx, reduceLT, reduceEqDiff, Nat.reduceBEq, reduceIte])
 refine sat_store (b10.fix f11 (by omega)) ty35 rfl (Nat.le_refl 2) rfl ?_
 intro h12 b12 n12 f12
 (try simp only [wk, wl, wx, reduceLT, reduceEqDiff, Nat.reduceBEq, reduceIte])
 have F12 : Kept h8 h12 := ⟨by omega, fun b hb => by rw [f12.same b (by omega), f11.same b (by omega), f10.same b (by omega), f9.same b hb]⟩
 have F712 : Kept h7 h12 := f8.trans (F12.sub fun b hb => by omega)
 have F212 : Kept h2 h12 := F27.trans (F712.sub fun b hb => by omega)
 have bA := b67.fix F712 (by omega)
 have bB := b11.fix f12 (by omega)
 have lf1 : loadP (E g) h12 35 (.ptr h3.next 0) = some (.agg (faultV (ldP x (L.map (·.2)) N).2)) := bA.agg ty35 rfl (Nat.le_refl 2)
 have lf2 : loadP (E g) h12 35 (.ptr h8.next 0) = some (.agg (faultV (ldP x (L.map (·.2)) N).2)) := bB.agg ty35 rfl (Nat.le_refl 2)
 have lf3 : loadP (E g) h12 33 (.ptr h3.next 1) = some (i64 (ldP x (L.map (·.2)) N).2.2) := bA.at ty33 rfl 1
 have U12 : Rcs (E g) h12 3 useV us U := Sl.fix U2 (inU.sub fun b hb => by omega) F212
 ((repeat refine WC.seq ?_); refine WC.run ?_)
 (try simp only [wk, wl, wx, reduceLT, reduceEqDiff, Nat.reduceBEq, reduceIte, lf1, lf2, neq73])
 (repeat refine WC.seq ?_)
 refine WC.cond (b := false) (by (try simp only [wk, wl, wx, reduceLT, reduceEqDiff, Nat.reduceBEq, reduceIte]); (try simp); (try omega)) (WC.skip ?_)
 (try simp only [wk, wl, wx, reduceLT, reduceEqDiff, Nat.reduceBEq, reduceIte])
 ((repeat refine WC.seq ?_); refine WC.run ?_)
 (try simp only [wk, wl, wx, reduceLT, reduceEqDiff, Nat.reduceBEq, reduceIte, fa35_1, Nat.zero_add, lf3, i64])
 (repeat refine WC.seq ?_)
 by_cases hz : (ldP x (L.map (·.2)) N).2.2 = 0
 ·refine WC.cond (b := false) (by (try simp only [wk, wl, wx, reduceLT, reduceEqDiff, Nat.reduceBEq, reduceIte, hz]); (try simp); (try omega)) (WC.skip ?_)
  (try simp only [wk, wl, wx, reduceLT, reduceEqDiff, Nat.reduceBEq, reduceIte])
  obtain ⟨xs0, hld⟩ := ldP_ok hz
  rw [hld] at hpq hpq'
  obtain ⟨pb, sb, sc, tag, cs, pr, sr, scr, tagr, csr, md, hm1, hm2, rfl, rfl, pm0, -, -, -⟩ := hpq
  obtain ⟨qb, tb, tc, tagq, cq, pr', sr', scr', tagr', csr', mq, hq1, hq2, rfl, rfl, pn0, -, hcq, -⟩ := hpq'
  obtain ⟨hg0, hl0⟩ := ldP_good hld
  have hnice := ldP_nice hld
  have hqi := pn0.his
  ((repeat refine WC.seq ?_); refine WC.run ?_)
  (try simp only [wk, wl, wx, reduceLT, reduceEqDiff, Nat.reduceBEq, reduceIte, Sl.lenB U12 ty86 rfl])
  (repeat refine WC.seq ?_)
  refine WC.block ?_
  refine WC.while (fun m fr hh => ∃ ts i xs, ∃ D : Nat → Nat → Prop, fr = ⟨ts, 120, [], 7, none⟩ ∧ Fix (· < h2.next) h2 hh ∧ m = U.length - i ∧ i ≤ U.length ∧ PM g hh h2.next md pb sb sc tag cs xs ∧ PM g hh h7.next mq qb tb tc tagq cq xs0 ∧ SP xs0 D xs ∧ Good xs ∧ xs.length ≤ 51 ∧ ts.get 5 = some (.ptr pb 0) ∧ ts.get 9 = some (.ptr qb 0) ∧ ts.get 54 = some us ∧ ts.get 55 = some (.int .i64 U.length) ∧ ts.get 56 = some (.int .i64 i)) ?_ ⟨_, 0, xs0, _, rfl, F212, rfl, by omega, (pm0.fix (F7.sub fun b hb => by omega)).fix (F712.sub fun b hb => by omega), pn0.fix (F12.sub fun b hb => by omega), SP.refl xs0, hg0, hl0, ?_, ?_, ?_, ?_, ?_⟩
  ·rintro m fr hh ⟨ts, i, xs, D, rfl, ff, rfl, hi, pm, pn, sp, hgd, hln, t5, t9, t54, t55, t56⟩
   have xh := ff.next
   have hhi := pn.his
   have Uh : Rcs (E g) hh 3 useV us U := Sl.fix U2 (inU.sub fun b hb => by omega) ff
   ((repeat refine WC.seq ?_); refine WC.run ?_)
   (try simp only [wk, wl, wx, reduceLT, reduceEqDiff, Nat.reduceBEq, reduceIte, t55, t56])
   (repeat refine WC.seq ?_)
   by_cases hlt : i < U.length
   ·refine WC.cond (b := true) (by (try simp only [wk, wl, wx, reduceLT, reduceEqDiff, Nat.reduceBEq, reduceIte]); (try simp); (try omega)) (WC.skip ?_)
    (try simp only [wk, wl, wx, reduceLT, reduceEqDiff, Nat.reduceBEq, reduceIte])
    obtain ⟨p, p1, p2⟩ := Uh.at (fun _ => rfl) ty86 rfl ty92 rfl (by decide) rfl hlt
    have p2 := p2 hh fun _ _ _ _ _ => rfl
    generalize hu : U[i] = u at p2
    (repeat refine WC.seq ?_)
    refine WC.block ?_
    ((repeat refine WC.seq ?_); refine WC.run ?_)
    (try simp only [wk, wl, wx, reduceLT, reduceEqDiff, Nat.reduceBEq, reduceIte, t54, t56, p1, p2])
    refine wop_alloc ty92 ?_
    intro h13 b13 n13 f13
    (try simp only [wk, wl, wx, reduceLT, reduceEqDiff, Nat.reduceBEq, reduceIte])
    refine sat_store b13 ty92 rfl (Nat.le_refl 3) rfl ?_
    intro h14 b14 n14 f14
    have b14 : Has h14 hh.next [.int .u8 u.d, i64 u.n, .str u.nm] := b14
    have F14 : Kept hh h14 := ⟨by omega, fun b hb => by rw [f14.same b (by omega), f13.same b hb]⟩
    have x14 := F14.next
    have ld1 : loadP (E g) h14 3 (.ptr hh.next 1) = some (.int .i64 u.n) := b14.at ty3 rfl 1
    have ld2 : loadP (E g) h14 9 (.ptr hh.next 2) = some (.str u.nm) := b14.at ty9 rfl 2
    have pm14 := pm.kept F14
    have pn14 := pn.kept F14
    (try simp only [wk, wl, wx, reduceLT, reduceEqDiff, Nat.reduceBEq, reduceIte])
    ((repeat refine WC.seq ?_); refine WC.run ?_)
    (try simp only [wk, wl, wx, reduceLT, reduceEqDiff, Nat.reduceBEq, reduceIte, fa92_2, Nat.zero_add, ld2, len_str])
    (repeat refine WC.seq ?_)
    by_cases h200 : (u.nm.length : Int) ≤ 200
    ·refine WC.cond (b := true) (by (try simp only [wk, wl, wx, reduceLT, reduceEqDiff, Nat.reduceBEq, reduceIte, decide_eq_true h200]); (try simp); (try omega)) ?_
     (try simp only [wk, wl, wx, reduceLT, reduceEqDiff, Nat.reduceBEq, reduceIte])
     ((repeat refine WC.seq ?_); refine WC.run ?_)
     (try simp only [wk, wl, wx, reduceLT, reduceEqDiff, Nat.reduceBEq, reduceIte, t5, fa92_1, fa92_2, Nat.zero_add, ld1, ld2])
     refine (call_ok (n := u.n) (nm := u.nm) pm14 (by omega) hgd).mono fun v h15 ⟨e15, pm15, f15⟩ => ?_
     subst e15
     have x15 := f15.next
     have pn15 := pn14.fixX hcq (f15.sub fun b hb => hb.elim (fun q => by omega) fun q => by have : h7.next ≤ b := q.1; omega)
     obtain ⟨D', sp'⟩ := sp.call hg0 hnice u.n u.nm
     (try simp only [wk, wl, wx, reduceLT, reduceEqDiff, Nat.reduceBEq, reduceIte, callV])
     ((repeat refine WC.seq ?_); refine WC.run ?_)
     (try simp only [wk, wl, wx, reduceLT, reduceEqDiff, Nat.reduceBEq, reduceIte, t56, bin_add])
     refine ⟨_, ?_, _, i + 1, _, D', rfl, ⟨by omega, fun b hb => by rw [f15.same b ⟨by omega, by omega⟩, F14.same b (by omega), ff.same b hb]⟩, rfl, by omega, pm15, pn15, sp', callP_good hgd, by rw [callP_length]; omega, ?_⟩
     ·omega
     (try simp only [wk, wl, wx, reduceLT, reduceEqDiff, Nat.reduceBEq, reduceIte, t5, t9, t54, t55])
     refine ⟨trivial, trivial, trivial, trivial, ?_⟩
     rw [wrap64 (by omega) (by omega)]; rfl
    ·refine WC.cond (b := false) (by (try simp only [wk, wl, wx, reduceLT, reduceEqDiff, Nat.reduceBEq, reduceIte, decide_eq_false h200]); (try simp); (try omega)) (WC.skip ?_)
     (try simp only [wk, wl, wx, reduceLT, reduceEqDiff, Nat.reduceBEq, reduceIte])
     ((repeat refine WC.seq ?_); refine WC.run ?_)
     (try simp only [wk, wl, wx, reduceLT, reduceEqDiff, Nat.reduceBEq, reduceIte, t56, bin_add])
     refine ⟨_, ?_, _, i + 1, _, D, rfl, ff.trans (F14.sub fun b hb => by omega), rfl, by omega, pm14, pn14, sp, hgd, hln, ?_⟩
     ·omega
     (try simp only [wk, wl, wx, reduceLT, reduceEqDiff, Nat.reduceBEq, reduceIte, t5, t9, t54, t55])
     refine ⟨trivial, trivial, trivial, trivial, ?_⟩
     rw [wrap64 (by omega) (by omega)]; rfl
   ·refine WC.cond (b := false) (by (try simp only [wk, wl, wx, reduceLT, reduceEqDiff, Nat.reduceBEq, reduceIte]); (try simp); (try omega)) (WC.exit ?_)
    (try simp only [wk, wl, wx, reduceLT, reduceEqDiff, Nat.reduceBEq, reduceIte])
    obtain ⟨he, hby⟩ := lazy_same sp hg0 hnice
    ((repeat refine WC.seq ?_); refine WC.run ?_)
    (try simp only [wk, wl, wx, reduceLT, reduceEqDiff, Nat.reduceBEq, reduceIte, t5])
    refine (bindAll_ok pm (by omega) hgd).mono fun v h13 ⟨e13, pm13, f13⟩ => ?_
    subst e13
    have x13 := f13.next
    have pn13 := pn.fixX hcq (f13.sub fun b hb => hb.elim (fun q => by omega) fun q => by have : h7.next ≤ b := q.1; omega)
    (try simp only [wk, wl, wx, reduceLT, reduceEqDiff, Nat.reduceBEq, reduceIte])
    ((repeat refine WC.seq ?_); refine WC.run ?_)
    (try simp only [wk, wl, wx, reduceLT, reduceEqDiff, Nat.reduceBEq, reduceIte, t9])
    refine (bindAll_ok pn13 (by omega) hg0).mono fun v h14 ⟨e14, pn14, f14⟩ => ?_
    subst e14
    have x14 := f14.next
    have pm14 := pm13.fix (f14.sub fun b hb => by omega)
    rw [he]
    have hl1 : (bindAllP xs).1.length = xs.length := bindAllP_length
    have hl2 : (bindAllP xs0).1.length = xs0.length := bindAllP_length
    have hl3 : xs.length = xs0.length := shapes_length sp.sh
    (try simp only [wk, wl, wx, reduceLT, reduceEqDiff, Nat.reduceBEq, reduceIte])
    ((repeat refine WC.seq ?_); refine WC.run ?_)
    (try simp only [wk, wl, wx, reduceLT, reduceEqDiff, Nat.reduceBEq, reduceIte, i64, bne_self_eq_false])
    (repeat refine WC.seq ?_)
    refine WC.cond (b := false) (by (try simp only [wk, wl, wx, reduceLT, reduceEqDiff, Nat.reduceBEq, reduceIte]); (try simp); (try omega)) (WC.skip ?_)
    (try simp only [wk, wl, wx, reduceLT, reduceEqDiff, Nat.reduceBEq, reduceIte])
    ((repeat refine WC.seq ?_); refine WC.run ?_)
    (try simp only [wk, wl, wx, reduceLT, reduceEqDiff, Nat.reduceBEq, reduceIte])
    (repeat refine WC.seq ?_)
    refine WC.block ?_
    generalize hX : (bindAllP xs).1 = ys at *
    generalize hY : (bindAllP xs0).1 = zs at *
    have gy : Good ys := hX ▸ bindAllP_good hgd
    have gz : Good zs := hY ▸ bindAllP_good hg0
    generalize hee : (bindAllP xs0).2.2 = ee at *
    refine WC.while (fun m fr hk => ∃ ts i, fr = ⟨ts, 120, [], 7, none⟩ ∧ m = ys.length - i ∧ i ≤ ys.length ∧ PM g hk h2.next md pb sb sc tag cs ys ∧ PM g hk h7.next mq qb tb tc tagq cq zs ∧ ts.get 5 = some (.ptr pb 0) ∧ ts.get 9 = some (.ptr qb 0) ∧ ts.get 16 = some (.int .i64 ee) ∧ ts.get 19 = some (.int .i64 i)) ?_ ⟨_, 0, rfl, rfl, by omega, pm14, pn14, ?_, ?_, ?_, ?_⟩
    ·rintro m fr hk ⟨ts, i, rfl, rfl, hi', pm, pn, t5, t9, t16, t19⟩
     ((repeat refine WC.seq ?_); refine WC.run ?_)
     (try simp only [wk, wl, wx, reduceLT, reduceEqDiff, Nat.reduceBEq, reduceIte, t19, t5])
     refine (images33_ok pm).mono fun v h15 ⟨e15, e15'⟩ => ?_
     subst e15 e15'
     by_cases hlt' : (i : Int) < ys.length
     ·by_cases h0 : ee = 0
      ·subst h0
       (try simp only [wk, wl, wx, reduceLT, reduceEqDiff, Nat.reduceBEq, reduceIte, decide_eq_true hlt', t16, un, beq_self_eq_true])
       (repeat refine WC.seq ?_)
       refine WC.cond (b := true) (by (try simp only [wk, wl, wx, reduceLT, reduceEqDiff, Nat.reduceBEq, reduceIte]); (try simp); (try omega)) (WC.skip ?_)
       (try simp only [wk, wl, wx, reduceLT, reduceEqDiff, Nat.reduceBEq, reduceIte])
       (repeat refine WC.seq ?_)
       refine WC.block ?_
       ((repeat refine WC.seq ?_); refine WC.run ?_)
       (try simp only [wk, wl, wx, reduceLT, reduceEqDiff, Nat.reduceBEq, reduceIte, t5, t19])
       refine (bytes31_ok (n := (i : Int)) pm (by omega) gy).mono fun v h16 ⟨⟨s1, e16, bs1, in1⟩, f16⟩ => ?_
       subst e16
       have pm16 := pm.kept f16
       have pn16 := pn.kept f16
       (try simp only [wk, wl, wx, reduceLT, reduceEqDiff, Nat.reduceBEq, reduceIte])
       ((repeat refine WC.seq ?_); refine WC.run ?_)
       (try simp only [wk, wl, wx, reduceLT, reduceEqDiff, Nat.reduceBEq, reduceIte, t9, t19])
       refine (bytes31_ok (n := (i : Int)) pn16 (by omega) gz).mono fun v h17 ⟨⟨s2, e17, bs2, in2⟩, f17⟩ => ?_
       subst e17
       have bs1' : Bs g h17 s1 (bytesP ys (i : Int)).1 := Sl.fix bs1 (in1.sub fun b hb => hb.2) f17
       have hb1 := hby rfl (i : Int)
       have hb2 : (bytesP zs (i : Int)).2 = 0 := by unfold bytesP; rw [if_pos (by omega)]
       rw [hb1] at bs1'
       rw [hb1, hb2]
       (try simp only [wk, wl, wx, reduceLT, reduceEqDiff, Nat.reduceBEq, reduceIte])
       ((repeat refine WC.seq ?_); refine WC.run ?_)
       (try simp only [wk, wl, wx, reduceLT, reduceEqDiff, Nat.reduceBEq, reduceIte, conv_str bs1', conv_str bs2, bin_sneq, beq_self_eq_true, Bool.not_true, un, i64, bne_self_eq_false])
       (repeat refine WC.seq ?_)
       refine WC.cond (b := false) (by (try simp only [wk, wl, wx, reduceLT, reduceEqDiff, Nat.reduceBEq, reduceIte]); (try simp); (try omega)) (WC.skip ?_)
       (try simp only [wk, wl, wx, reduceLT, reduceEqDiff, Nat.reduceBEq, reduceIte])
       ((repeat refine WC.seq ?_); refine WC.run ?_)
       (try simp only [wk, wl, wx, reduceLT, reduceEqDiff, Nat.reduceBEq, reduceIte, t19, bin_add])
       refine ⟨_, ?_, _, i + 1, rfl, rfl, by omega, pm16.kept f17, pn16.kept f17, ?_⟩
       ·omega
       (try simp only [wk, wl, wx, reduceLT, reduceEqDiff, Nat.reduceBEq, reduceIte, t5, t9, t16])
       refine ⟨trivial, trivial, trivial, ?_⟩
       rw [wrap64 (by omega) (by omega)]; rfl
      ·have he0 : (ee == 0) = false := by simpa using h0
       (try simp only [wk, wl, wx, reduceLT, reduceEqDiff, Nat.reduceBEq, reduceIte, decide_eq_true hlt', t16, un, he0])
       (repeat refine WC.seq ?_)
       refine WC.cond (b := false) (by (try simp only [wk, wl, wx, reduceLT, reduceEqDiff, Nat.reduceBEq, reduceIte]); (try simp); (try omega)) (WC.exit ?_)
       (try simp only [wk, wl, wx, reduceLT, reduceEqDiff, Nat.reduceBEq, reduceIte, show Nat.beq 2 2 = true from rfl])
       ((repeat refine WC.seq ?_); refine WC.run ?_)
       (try simp only [wk, wl, wx, reduceLT, reduceEqDiff, Nat.reduceBEq, reduceIte])
       refine awake_ok ?_
       (try simp only [wk, wl, wx, reduceLT, reduceEqDiff, Nat.reduceBEq, reduceIte])
       refine WC.ret ?_
       (try simp only [wk, wl, wx, reduceLT, reduceEqDiff, Nat.reduceBEq, reduceIte])
     ·(try simp only [wk, wl, wx, reduceLT, reduceEqDiff, Nat.reduceBEq, reduceIte, decide_eq_false hlt', un])
      (repeat refine WC.seq ?_)
      refine WC.cond (b := false) (by (try simp only [wk, wl, wx, reduceLT, reduceEqDiff, Nat.reduceBEq, reduceIte]); (try simp); (try omega)) (WC.exit ?_)
      (try simp only [wk, wl, wx, reduceLT, reduceEqDiff, Nat.reduceBEq, reduceIte, show Nat.beq 2 2 = true from rfl])
      ((repeat refine WC.seq ?_); refine WC.run ?_)
      (try simp only [wk, wl, wx, reduceLT, reduceEqDiff, Nat.reduceBEq, reduceIte])
      refine awake_ok ?_
      (try simp only [wk, wl, wx, reduceLT, reduceEqDiff, Nat.reduceBEq, reduceIte])
      refine WC.ret ?_
      (try simp only [wk, wl, wx, reduceLT, reduceEqDiff, Nat.reduceBEq, reduceIte])
    all_goals (try simp only [wk, wl, wx, reduceLT, reduceEqDiff, Nat.reduceBEq, reduceIte, t5, t9])
    all_goals (first | done | rfl | trivial | simp)
  all_goals (try simp only [wk, wl, wx, reduceLT, reduceEqDiff, Nat.reduceBEq, reduceIte])
  all_goals (first | done | rfl | trivial | simp)
 ·refine WC.cond (b := true) (by (try simp only [wk, wl, wx, reduceLT, reduceEqDiff, Nat.reduceBEq, reduceIte, hz]); (try simp); (try omega)) ?_
  ((repeat refine WC.seq ?_); refine WC.run ?_)
  (try simp only [wk, wl, wx, reduceLT, reduceEqDiff, Nat.reduceBEq, reduceIte])
  refine awake_ok ?_
  (try simp only [wk, wl, wx, reduceLT, reduceEqDiff, Nat.reduceBEq, reduceIte])
  refine WC.ret ?_
  (try simp only [wk, wl, wx, reduceLT, reduceEqDiff, Nat.reduceBEq, reduceIte])
end Go.Proofs.OP
