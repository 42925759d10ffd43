/- Walks: the law of programs. Printed by genS17.py. -/
import Derived.Test.YtloblhhnlaaajaaGreatDoorV15
import Derived.Test.YtloblhhnlaaajaaGreatDoorV43
import Derived.Test.YtloblhhnlaaajaaGreatDoorV23
import Derived.Test.YtloblhhnlaaajaaGreatDoorV17
set_option linter.unusedVariables false
set_option linter.unusedSimpArgs false
set_option linter.defProp false
set_option linter.unusedSimpArgs false
namespace Go.Proofs.OP
open Go Go.Ev
open Go.Proofs
open Nat (reduceLT reduceEqDiff)
variable {g : T (List V)}

structure UseD where
 d : Int
 n : Int
 nm : List UInt8
def useV (u : UseD) : List V := [.int .u8 u.d, i64 u.n, .str u.nm]
theorem ldP_good {x : ImgD} {libs xs : List ImgD} {N : List (List UInt8)} (h : (ldP x libs N).1 = some xs) : Good xs ∧ xs.length ≤ 51 := by
 unfold ldP at h
 split at h
 ·cases h
 ·rename_i hg
  obtain ⟨h50, -, smx, gl, -⟩ := givenF_good (Decidable.not_not.1 hg)
  split at h
  ·cases h
  ·injection h with h
   have i := loadF_inv (names := N) gl (f := 60) (i := 0) (linv0 (libs := libs) smx)
   subst h
   exact ⟨i.good, by have := i.bound; show (loadF N libs 60 0 ([-1], [x])).1.2.length ≤ 51; omega⟩
theorem eqT_i30 {n : Nat} {a b : Int} : eqT (E g) (n + 1) 30 (.int .i64 a) (.int .i64 b) = some (decide (a = b)) := by
 simp only [eqT, ty30, scalarEq, if_true]
theorem neq73 {h : H} {c : Bool} {a : Int × Int} : binV (E g) h c .neq 73 (.agg (faultV a)) (.agg (faultV a)) = some (.bool false) := by
 have : eqV (E g) h 73 (.agg (faultV a)) (.agg (faultV a)) = some true := by
  simp only [eqV, ty73, E_eqs, show es.contains 73 = true from rfl, cond_true]
  simp only [eqFlds, partV, ty3, ty30, TI.agg, cond_false, faultV, nth, i64, eqT_i3, eqT_i30, show (("At" : String) == "_") = false from rfl, show (("Code" : String) == "_") = false from rfl, decide_true]
 simp only [binV, this, Option.map_some, Bool.not_true]
theorem eql_nn {h : H} {c : Bool} : binV (E g) h c .eql 70 .nilp .nilp = some (.bool true) := by
 simp only [binV, eqV, ty70, Option.map_some]
theorem eql_nn2 {h : H} {c : Bool} : binV (E g) h c .eql 71 .nilp .nilp = some (.bool true) := by
 simp only [binV, eqV, ty71, Option.map_some]
theorem neq_bb {h : H} {c : Bool} {b : Bool} : binV (E g) h c .neq 4 (.bool b) (.bool b) = some (.bool false) := by
 cases b <;> simp [binV, eqV, ty4]
theorem eql_bb {h : H} {c : Bool} {b : Bool} : binV (E g) h c .eql 4 (.bool b) (.bool b) = some (.bool true) := by
 cases b <;> simp [binV, eqV, ty4]
theorem rem4 {h : H} {c : Bool} {t : Nat} {a : Int} : binV (E g) h c .rem t (.int .u8 a) (.int .u8 4) = some (.int .u8 (a.tmod 4)) := bin_rem (by decide)

set_option maxRecDepth 100000 in
set_option maxHeartbeats 8000000 in
theorem programs_ok {h : H} {c : Ic} {ls ns us : V} {x : ImgD} {L : List (Ic × ImgD)} {N : List (List UInt8)} {U : List UseD} (a : LdM g h (· < h.next) c ls ns x L N) (r : LdR x L N) (hU : Rcs (E g) h 3 useV us U) (inU : In (· < h.next) us) (lU : U.length < 2 ^ 62) :
  WF (E g) 5 [.agg (ldC c x ls ns), us] h fun v _ => v = .bool true := by
 refine WF.enter fn5 rfl ?_
 ((repeat refine WC.seq ?_); refine WC.run ?_)
 (try simp only [wk, wl, wx, reduceLT, reduceEqDiff, Nat.reduceBEq, reduceIte])
 refine wop_box (v := .agg (ldC c x ls ns)) (by (try simp only [wk, wl, wx, reduceLT, reduceEqDiff, Nat.reduceBEq, reduceIte])) ?_
 intro h1 b1 n1 f1
 have b1 : Has h1 h.next (ldC c x ls ns) := b1
 (try simp only [wk, wl, wx, reduceLT, reduceEqDiff, Nat.reduceBEq, reduceIte])
 have a1 := (a.fix f1 fun _ h => h)
 have U1 : Rcs (E g) h1 3 useV us U := Sl.fix hU inU f1
 have lv : ∀ h', Fix (· < h1.next) h1 h' → loadP (E g) h' 67 (.ptr h.next 0) = some (.agg (ldC c x ls ns)) := fun h' f =>
  (b1.fix f (by omega)).agg ty67 rfl (o := 0) (Nat.le_refl 9)
 ((repeat refine WC.seq ?_); refine WC.run ?_)
 (try simp only [wk, wl, wx, reduceLT, reduceEqDiff, Nat.reduceBEq, reduceIte, lv h1 (Fix.refl _ _)])
 refine (fewLd_ok (a1.up fun b hb => by omega) r).mono fun v h2 ⟨e2, f2⟩ => ?_
 subst e2
 have x2 := f2.next
 have U2 : Rcs (E g) h2 3 useV us U := Sl.fix U1 (inU.sub fun b hb => by omega) f2
 have a2 := a1.fix f2 fun b hb => by omega
 cases hf : fewLd x L N with
 | false =>
  (try simp only [wk, wl, wx, reduceLT, reduceEqDiff, Nat.reduceBEq, reduceIte, Bool.not_false, un])
  (repeat refine WC.seq ?_)
  refine WC.cond (b := true) (by (try simp only [wk, wl, wx, reduceLT, reduceEqDiff, Nat.reduceBEq, reduceIte]); (try simp); (try omega)) ?_
  ((repeat refine WC.seq ?_); refine WC.run ?_)
  (try simp only [wk, wl, wx, reduceLT, reduceEqDiff, Nat.reduceBEq, reduceIte])
  refine awake_ok ?_
  (try simp only [wk, wl, wx, reduceLT, reduceEqDiff, Nat.reduceBEq, reduceIte])
  refine WC.ret ?_
  (try simp only [wk, wl, wx, reduceLT, reduceEqDiff, Nat.reduceBEq, reduceIte])
 | true =>
 by_cases hbig : (40 : Int) < U.length
 ·(try simp only [wk, wl, wx, reduceLT, reduceEqDiff, Nat.reduceBEq, reduceIte, Bool.not_true, un, Sl.lenB U2 ty68 rfl, decide_eq_true hbig])
  (repeat refine WC.seq ?_)
  refine WC.cond (b := true) (by (try simp only [wk, wl, wx, reduceLT, reduceEqDiff, Nat.reduceBEq, reduceIte]); (try simp); (try omega)) ?_
  ((repeat refine WC.seq ?_); refine WC.run ?_)
  (try simp only [wk, wl, wx, reduceLT, reduceEqDiff, Nat.reduceBEq, reduceIte])
  refine awake_ok ?_
  (try simp only [wk, wl, wx, reduceLT, reduceEqDiff, Nat.reduceBEq, reduceIte])
  refine WC.ret ?_
  (try simp only [wk, wl, wx, reduceLT, reduceEqDiff, Nat.reduceBEq, reduceIte])
 (try simp only [wk, wl, wx, reduceLT, reduceEqDiff, Nat.reduceBEq, reduceIte, Bool.not_true, un, Sl.lenB U2 ty68 rfl, decide_eq_false hbig])
 (repeat refine WC.seq ?_)
 refine WC.cond (b := false) (by (try simp only [wk, wl, wx, reduceLT, reduceEqDiff, Nat.reduceBEq, reduceIte]); (try simp); (try omega)) (WC.skip ?_)
 (try simp only [wk, wl, wx, reduceLT, reduceEqDiff, Nat.reduceBEq, reduceIte])
 have hfew := hf
 simp only [fewLd, Bool.and_eq_true, List.all_eq_true, decide_eq_true_eq] at hfew
 obtain ⟨hf1, hf2, hf3, hf4, hf5⟩ := hfew
 ((repeat refine WC.seq ?_); refine WC.run ?_)
 (try simp only [wk, wl, wx, reduceLT, reduceEqDiff, Nat.reduceBEq, reduceIte, lv h2 f2])
 refine (load24_ok (K := (· < h.next)) (fun b hb => by omega) a2 (fewI_fits hf3) (fun p hp => fewI_fits (hf1 p hp)) (by omega) (by omega)).mono fun v h3 ⟨f3, p, q, e3, hpq⟩ => ?_
 subst e3
 have x3 := f3.next
 generalize (ldP x (L.map (·.2)) N).2 = flt at *
 (try simp only [wk, wl, wx, reduceLT, reduceEqDiff, Nat.reduceBEq, reduceIte])
 refine wop_alloc ty73 ?_
 intro h4 b4 n4 f4
 (try simp only [wk, wl, wx, reduceLT, reduceEqDiff, Nat.reduceBEq, reduceIte])
 refine wop_alloc ty73 ?_
 intro h5 b5 n5 f5
 (try simp only [wk, wl, wx, reduceLT, reduceEqDiff, Nat.reduceBEq, reduceIte])
 refine sat_store (b4.fix f5 (by omega)) ty73 rfl (Nat.le_refl 2) rfl ?_
 intro h6 b6 n6 f6
 have b6 : Has h6 h3.next (faultV flt) := b6
 (try simp only [wk, wl, wx, reduceLT, reduceEqDiff, Nat.reduceBEq, reduceIte])
 refine sat_store (b5.fix f6 (by omega)) ty73 rfl (Nat.le_refl 2) rfl ?_
 intro h7 b7 n7 f7
 have b7 : Has h7 h4.next (faultV flt) := b7
 (try simp only [wk, wl, wx, reduceLT, reduceEqDiff, Nat.reduceBEq, reduceIte])
 have F7 : Kept h3 h7 := ⟨by omega, fun b hb => by rw [f7.same b (by omega), f6.same b (by omega), f5.same b (by omega), f4.same b hb]⟩
 have lf1 : loadP (E g) h7 73 (.ptr h3.next 0) = some (.agg (faultV flt)) := (b6.fix f7 (by omega)).agg ty73 rfl (Nat.le_refl 2)
 have lf2 : loadP (E g) h7 73 (.ptr h4.next 0) = some (.agg (faultV flt)) := b7.agg ty73 rfl (Nat.le_refl 2)
 have F27 : Kept h2 h7 := f3.trans (F7.sub fun b hb => by omega)
 have U7 : Rcs (E g) h7 3 useV us U := Sl.fix U2 (inU.sub fun b hb => by omega) F27
 cases hld : (ldP x (L.map (·.2)) N).1 with
 | none =>
  rw [hld] at hpq
  obtain ⟨rfl, rfl⟩ := hpq
  ((repeat refine WC.seq ?_); refine WC.run ?_)
  (try simp only [wk, wl, wx, reduceLT, reduceEqDiff, Nat.reduceBEq, reduceIte, lf1, lf2, neq73, eql_nn, eql_nn2, neq_bb])
  (repeat refine WC.seq ?_)
  refine WC.cond (b := false) (by (try simp only [wk, wl, wx, reduceLT, reduceEqDiff, Nat.reduceBEq, reduceIte]); (try simp); (try omega)) (WC.skip ?_)
  (try simp only [wk, wl, wx, reduceLT, reduceEqDiff, Nat.reduceBEq, reduceIte])
  ((repeat refine WC.seq ?_); refine WC.run ?_)
  (try simp only [wk, wl, wx, reduceLT, reduceEqDiff, Nat.reduceBEq, reduceIte, Sl.lenB U7 ty68 rfl])
  (repeat refine WC.seq ?_)
  refine WC.block ?_
  refine WC.while (fun m fr hh => ∃ ts, fr = ⟨ts, 204, [], 5, none⟩ ∧ hh = h7 ∧ m = 0 ∧ ts.get 6 = some .nilp ∧ ts.get 58 = some us ∧ ts.get 59 = some (.int .i64 U.length) ∧ ts.get 60 = some (.int .i64 ((0 : Nat) : Int))) ?_ ⟨_, rfl, rfl, rfl, ?_, ?_, ?_, ?_⟩
  ·rintro m fr hh ⟨ts, rfl, rfl, rfl, t6, t58, t59, t60⟩
   ((repeat refine WC.seq ?_); refine WC.run ?_)
   (try simp only [wk, wl, wx, reduceLT, reduceEqDiff, Nat.reduceBEq, reduceIte, t59, t60])
   (repeat refine WC.seq ?_)
   by_cases hlt : 0 < U.length
   ·refine WC.cond (b := true) (by (try simp only [wk, wl, wx, reduceLT, reduceEqDiff, Nat.reduceBEq, reduceIte]); (try simp); (try omega)) (WC.skip ?_)
    (try simp only [wk, wl, wx, reduceLT, reduceEqDiff, Nat.reduceBEq, reduceIte])
    obtain ⟨p, p1, p2⟩ := U7.at (fun _ => rfl) ty68 rfl ty77 rfl (by decide) rfl hlt
    have p2 := p2 hh fun _ _ _ _ _ => rfl
    (repeat refine WC.seq ?_)
    refine WC.block ?_
    ((repeat refine WC.seq ?_); refine WC.run ?_)
    (try simp only [wk, wl, wx, reduceLT, reduceEqDiff, Nat.reduceBEq, reduceIte, t58, t60, p1, p2])
    refine wop_alloc ty77 ?_
    intro h8 b8 n8 f8
    (try simp only [wk, wl, wx, reduceLT, reduceEqDiff, Nat.reduceBEq, reduceIte])
    refine sat_store b8 ty77 rfl (Nat.le_refl 3) rfl ?_
    intro h9 b9 n9 f9
    (try simp only [wk, wl, wx, reduceLT, reduceEqDiff, Nat.reduceBEq, reduceIte])
    ((repeat refine WC.seq ?_); refine WC.run ?_)
    (try simp only [wk, wl, wx, reduceLT, reduceEqDiff, Nat.reduceBEq, reduceIte, t6, eql_nn2])
    (repeat refine WC.seq ?_)
    refine WC.cond (b := true) (by (try simp only [wk, wl, wx, reduceLT, reduceEqDiff, Nat.reduceBEq, reduceIte]); (try simp); (try omega)) ?_
    refine WC.exit ?_
    (try simp only [wk, wl, wx, reduceLT, reduceEqDiff, Nat.reduceBEq, reduceIte, show Nat.beq 0 0 = true from rfl])
    ((repeat refine WC.seq ?_); refine WC.run ?_)
    (try simp only [wk, wl, wx, reduceLT, reduceEqDiff, Nat.reduceBEq, reduceIte])
    refine awake_ok ?_
    (try simp only [wk, wl, wx, reduceLT, reduceEqDiff, Nat.reduceBEq, reduceIte])
    refine WC.ret ?_
    (try simp only [wk, wl, wx, reduceLT, reduceEqDiff, Nat.reduceBEq, reduceIte])
   ·have hz0 : ¬ (((0 : Nat) : Int) < U.length) := by omega
    refine WC.cond (b := false) (by (try simp only [wk, wl, wx, reduceLT, reduceEqDiff, Nat.reduceBEq, reduceIte]); (try simp); exact List.eq_nil_of_length_eq_zero (by omega)) (WC.exit ?_)
    (try simp only [wk, wl, wx, reduceLT, reduceEqDiff, Nat.reduceBEq, reduceIte])
    ((repeat refine WC.seq ?_); refine WC.run ?_)
    (try simp only [wk, wl, wx, reduceLT, reduceEqDiff, Nat.reduceBEq, reduceIte])
    refine awake_ok ?_
    (try simp only [wk, wl, wx, reduceLT, reduceEqDiff, Nat.reduceBEq, reduceIte])
    refine WC.ret ?_
    (try simp only [wk, wl, wx, reduceLT, reduceEqDiff, Nat.reduceBEq, reduceIte])
  all_goals (try simp only [wk, wl, wx, reduceLT, reduceEqDiff, Nat.reduceBEq, reduceIte])
  all_goals (first | done | rfl | trivial | simp)
 | some xs0 =>
  rw [hld] at hpq
  obtain ⟨pb, sb, sc, tag, cs, pb', sb', sc', tag', cs', md, hm1, hm2, rfl, rfl, pm0, pn0, hcs⟩ := hpq
  obtain ⟨hg0, hl0⟩ := ldP_good hld
  ((repeat refine WC.seq ?_); refine WC.run ?_)
  (try simp only [wk, wl, wx, reduceLT, reduceEqDiff, Nat.reduceBEq, reduceIte, lf1, lf2, neq73, bin_pnil, bin_pnil2, neq_bb])
  (repeat refine WC.seq ?_)
  refine WC.cond (b := false) (by (try simp only [wk, wl, wx, reduceLT, reduceEqDiff, Nat.reduceBEq, reduceIte]); (try simp); (try omega)) (WC.skip ?_)
  (try simp only [wk, wl, wx, reduceLT, reduceEqDiff, Nat.reduceBEq, reduceIte])
  ((repeat refine WC.seq ?_); refine WC.run ?_)
  (try simp only [wk, wl, wx, reduceLT, reduceEqDiff, Nat.reduceBEq, reduceIte, Sl.lenB U7 ty68 rfl])
  (repeat refine WC.seq ?_)
  refine WC.block ?_
  have F27' : Fix (· < h2.next) h2 h7 := F27
  refine WC.while (fun m fr hh => ∃ ts i xs, fr = ⟨ts, 204, [], 5, none⟩ ∧ Fix (· < h2.next) h2 hh ∧ m = U.length - i ∧ i ≤ U.length ∧ PM g hh h2.next md pb sb sc tag cs xs ∧ PM g hh md h3.next pb' sb' sc' tag' cs' xs ∧ Good xs ∧ xs.length ≤ 51 ∧ ts.get 5 = some (.ptr pb 0) ∧ ts.get 6 = some (.ptr pb' 0) ∧ ts.get 58 = some us ∧ ts.get 59 = some (.int .i64 U.length) ∧ ts.get 60 = some (.int .i64 i)) ?_ ⟨_, 0, xs0, rfl, F27, rfl, by omega, pm0.fix (F7.sub fun b hb => by omega), pn0.fix F7, hg0, hl0, ?_, ?_, ?_, ?_, ?_⟩
  ·rintro m fr hh ⟨ts, i, xs, rfl, ff, rfl, hi, pm, pn, hgd, hln, t5, t6, t58, t59, t60⟩
   have xh := ff.next
   have hhi := pn.his
   have Uh : Rcs (E g) hh 3 useV us U := Sl.fix U2 (inU.sub fun b hb => by omega) ff
   ((repeat refine WC.seq ?_); refine WC.run ?_)
   (try simp only [wk, wl, wx, reduceLT, reduceEqDiff, Nat.reduceBEq, reduceIte, t59, t60])
   (repeat refine WC.seq ?_)
   by_cases hlt : i < U.length
   ·refine WC.cond (b := true) (by (try simp only [wk, wl, wx, reduceLT, reduceEqDiff, Nat.reduceBEq, reduceIte]); (try simp); (try omega)) (WC.skip ?_)
    (try simp only [wk, wl, wx, reduceLT, reduceEqDiff, Nat.reduceBEq, reduceIte])
    obtain ⟨p, p1, p2⟩ := Uh.at (fun _ => rfl) ty68 rfl ty77 rfl (by decide) rfl hlt
    have p2 := p2 hh fun _ _ _ _ _ => rfl
    generalize hu : U[i] = u at p2
    (repeat refine WC.seq ?_)
    refine WC.block ?_
    ((repeat refine WC.seq ?_); refine WC.run ?_)
    (try simp only [wk, wl, wx, reduceLT, reduceEqDiff, Nat.reduceBEq, reduceIte, t58, t60, p1, p2])
    refine wop_alloc ty77 ?_
    intro h8 b8 n8 f8
    (try simp only [wk, wl, wx, reduceLT, reduceEqDiff, Nat.reduceBEq, reduceIte])
    refine sat_store b8 ty77 rfl (Nat.le_refl 3) rfl ?_
    intro h9 b9 n9 f9
    have b9 : Has h9 hh.next [.int .u8 u.d, i64 u.n, .str u.nm] := b9
    have F9 : Kept hh h9 := ⟨by omega, fun b hb => by rw [f9.same b (by omega), f8.same b hb]⟩
    have x9 := F9.next
    have ld : ∀ hq, Fix (· < h9.next) h9 hq ∨ Fix (fun b => b = hh.next) h9 hq → loadP (E g) hq 5 (.ptr hh.next 0) = some (.int .u8 u.d) ∧ loadP (E g) hq 3 (.ptr hh.next 1) = some (.int .i64 u.n) ∧ loadP (E g) hq 9 (.ptr hh.next 2) = some (.str u.nm) := fun hq f => by
     have bq : Has hq hh.next [.int .u8 u.d, i64 u.n, .str u.nm] := by rcases f with f | f <;> exact b9.fix f (by first | rfl | omega)
     exact ⟨bq.at ty5 rfl 0, bq.at ty3 rfl 1, bq.at ty9 rfl 2⟩
    have ld9 := ld h9 (.inl (Fix.refl _ _))
    (try simp only [wk, wl, wx, reduceLT, reduceEqDiff, Nat.reduceBEq, reduceIte])
    ((repeat refine WC.seq ?_); refine WC.run ?_)
    by_cases h200 : (200 : Int) < u.nm.length
    ·(try simp only [wk, wl, wx, reduceLT, reduceEqDiff, Nat.reduceBEq, reduceIte, t6, bin_pnil2, fa77_2, Nat.zero_add, ld9, len_str, decide_eq_true h200])
     (repeat refine WC.seq ?_)
     refine WC.cond (b := true) (by (try simp only [wk, wl, wx, reduceLT, reduceEqDiff, Nat.reduceBEq, reduceIte]); (try simp); (try omega)) ?_
     refine WC.exit ?_
     (try simp only [wk, wl, wx, reduceLT, reduceEqDiff, Nat.reduceBEq, reduceIte, show Nat.beq 0 0 = true from rfl])
     ((repeat refine WC.seq ?_); refine WC.run ?_)
     (try simp only [wk, wl, wx, reduceLT, reduceEqDiff, Nat.reduceBEq, reduceIte])
     refine awake_ok ?_
     (try simp only [wk, wl, wx, reduceLT, reduceEqDiff, Nat.reduceBEq, reduceIte])
     refine WC.ret ?_
     (try simp only [wk, wl, wx, reduceLT, reduceEqDiff, Nat.reduceBEq, reduceIte])
    (try simp only [wk, wl, wx, reduceLT, reduceEqDiff, Nat.reduceBEq, reduceIte, t6, bin_pnil2, fa77_2, Nat.zero_add, ld9, len_str, decide_eq_false h200])
    (repeat refine WC.seq ?_)
    refine WC.cond (b := false) (by (try simp only [wk, wl, wx, reduceLT, reduceEqDiff, Nat.reduceBEq, reduceIte]); (try simp); (try omega)) (WC.skip ?_)
    (try simp only [wk, wl, wx, reduceLT, reduceEqDiff, Nat.reduceBEq, reduceIte])
    have pm9 := pm.kept F9
    have pn9 := pn.kept F9
    have F29 : Fix (· < h2.next) h2 h9 := ff.trans (F9.sub fun b hb => by omega)
    ((repeat refine WC.seq ?_); refine WC.run ?_)
    (try simp only [wk, wl, wx, reduceLT, reduceEqDiff, Nat.reduceBEq, reduceIte])
    ((repeat refine WC.seq ?_); refine WC.run ?_)
    (try simp only [wk, wl, wx, reduceLT, reduceEqDiff, Nat.reduceBEq, reduceIte, fa77_0, Nat.zero_add, ld9, rem4])
    (repeat refine WC.seq ?_)
    refine WC.mono (Q := fun e fr hz => e = .normal ∧ ∃ ts xs', fr = ⟨ts, 204, [], 5, none⟩ ∧ Fix (fun b => b < h9.next ∧ ¬ (h2.next ≤ b ∧ b < h3.next)) h9 hz ∧ PM g hz h2.next md pb sb sc tag cs xs' ∧ PM g hz md h3.next pb' sb' sc' tag' cs' xs' ∧ Good xs' ∧ xs'.length ≤ 51 ∧ ts.get 5 = some (.ptr pb 0) ∧ ts.get 6 = some (.ptr pb' 0) ∧ ts.get 10 = some (.ptr hh.next 0) ∧ ts.get 11 = some (.bool true) ∧ ts.get 58 = some us ∧ ts.get 59 = some (.int .i64 U.length) ∧ ts.get 60 = some (.int .i64 i)) (WC.block ?_) ?_
    ·((repeat refine WC.seq ?_); refine WC.run ?_)
     generalize hR : u.d.tmod 4 = R
     by_cases r0 : R = 0
     ·subst r0
      (try simp only [wk, wl, wx, reduceLT, reduceEqDiff, Nat.reduceBEq, reduceIte, beq_self_eq_true])
      (repeat refine WC.seq ?_)
      refine WC.cond (b := true) (by (try simp only [wk, wl, wx, reduceLT, reduceEqDiff, Nat.reduceBEq, reduceIte]); (try simp); (try omega)) ?_
      (try simp only [wk, wl, wx, reduceLT, reduceEqDiff, Nat.reduceBEq, reduceIte])
      ((repeat refine WC.seq ?_); refine WC.run ?_)
      (try simp only [wk, wl, wx, reduceLT, reduceEqDiff, Nat.reduceBEq, reduceIte, t5, fa77_2, Nat.zero_add, ld9])
      refine (lookup_ok (nm := u.nm) pm9 (by omega) hgd.exps).mono fun v h10 ⟨e10, f10⟩ => ?_
      subst e10
      have x10 := f10.next
      have ld10 := ld h10 (.inl f10)
      (try simp only [wk, wl, wx, reduceLT, reduceEqDiff, Nat.reduceBEq, reduceIte, lookV])
      ((repeat refine WC.seq ?_); refine WC.run ?_)
      (try simp only [wk, wl, wx, reduceLT, reduceEqDiff, Nat.reduceBEq, reduceIte, t6, fa77_2, Nat.zero_add, ld10])
      refine (rlookup_ok (nm := u.nm) (pn9.kept f10) (by omega) hgd.exps).mono fun v h11 ⟨e11, f11⟩ => ?_
      subst e11
      have F11 : Kept h9 h11 := f10.trans (f11.sub fun b hb => by omega)
      (try simp only [wk, wl, wx, reduceLT, reduceEqDiff, Nat.reduceBEq, reduceIte, lookV])
      ((repeat refine WC.seq ?_); refine WC.run ?_)
      (try simp only [wk, wl, wx, reduceLT, reduceEqDiff, Nat.reduceBEq, reduceIte, i64, un, beq_self_eq_true])
      refine ⟨by trivial, _, xs, rfl, F11.sub fun b hb => hb.1, pm9.kept F11, pn9.kept F11, hgd, hln, ?_⟩
      (try simp only [wk, wl, wx, reduceLT, reduceEqDiff, Nat.reduceBEq, reduceIte, t5, t6, t58, t59, t60])
      simp
     ·have rf0 : (R == 0) = false := by simpa using r0
      (try simp only [wk, wl, wx, reduceLT, reduceEqDiff, Nat.reduceBEq, reduceIte, rf0])
      (repeat refine WC.seq ?_)
      refine WC.cond (b := false) (by (try simp only [wk, wl, wx, reduceLT, reduceEqDiff, Nat.reduceBEq, reduceIte]); (try simp); (try omega)) ?_
      (try simp only [wk, wl, wx, reduceLT, reduceEqDiff, Nat.reduceBEq, reduceIte])
      ((repeat refine WC.seq ?_); refine WC.run ?_)
      by_cases r1 : (R == 1 || R == 2) = true
      ·cases rf1 : (R == 1) with
       | true =>
        (try simp only [wk, wl, wx, reduceLT, reduceEqDiff, Nat.reduceBEq, reduceIte, rf1])
        (repeat refine WC.seq ?_)
        refine WC.cond (b := true) (by (try simp only [wk, wl, wx, reduceLT, reduceEqDiff, Nat.reduceBEq, reduceIte]); (try simp); (try omega)) ?_
        refine WC.skip ?_
        (try simp only [wk, wl, wx, reduceLT, reduceEqDiff, Nat.reduceBEq, reduceIte])
        (repeat refine WC.seq ?_)
        refine WC.cond (b := true) (by (try simp only [wk, wl, wx, reduceLT, reduceEqDiff, Nat.reduceBEq, reduceIte]); (try simp); (try omega)) ?_
        (try simp only [wk, wl, wx, reduceLT, reduceEqDiff, Nat.reduceBEq, reduceIte])
        ((repeat refine WC.seq ?_); refine WC.run ?_)
        (try simp only [wk, wl, wx, reduceLT, reduceEqDiff, Nat.reduceBEq, reduceIte, t5, fa77_1, fa77_2, Nat.zero_add, ld9])
        refine (call_ok (n := u.n) (nm := u.nm) pm9 (by omega) hgd).mono fun v h10 ⟨e10, pm10, f10⟩ => ?_
        subst e10
        have x10 := f10.next
        have pn10 := pn9.fixX hcs (f10.sub fun b hb => hb.elim (fun q => by omega) fun q => by have : b < h.next := q.1; omega)
        have ld10 := ld h10 (.inr (f10.sub fun b hb => by omega))
        (try simp only [wk, wl, wx, reduceLT, reduceEqDiff, Nat.reduceBEq, reduceIte, callV])
        ((repeat refine WC.seq ?_); refine WC.run ?_)
        (try simp only [wk, wl, wx, reduceLT, reduceEqDiff, Nat.reduceBEq, reduceIte, t6, fa77_1, fa77_2, Nat.zero_add, ld10])
        refine (rcall_ok (n := u.n) (nm := u.nm) pn10 (by omega) hgd).mono fun v h11 ⟨e11, pn11, f11⟩ => ?_
        subst e11
        have x11 := f11.next
        have pm11 := pm10.fix (f11.sub fun b hb => by omega)
        (try simp only [wk, wl, wx, reduceLT, reduceEqDiff, Nat.reduceBEq, reduceIte, callV])
        ((repeat refine WC.seq ?_); refine WC.run ?_)
        (try simp only [wk, wl, wx, reduceLT, reduceEqDiff, Nat.reduceBEq, reduceIte, i64, un, beq_self_eq_true, eql_bb])
        refine ⟨by trivial, _, (callP xs u.n u.nm).1, rfl, ⟨by omega, fun b hb => by rw [f11.same b (by omega), f10.same b (by omega)]⟩, pm11, pn11, callP_good hgd, by rw [callP_length]; omega, ?_⟩
        (try simp only [wk, wl, wx, reduceLT, reduceEqDiff, Nat.reduceBEq, reduceIte, t5, t6, t58, t59, t60])
        simp
       | false =>
        have rf2 : (R == 2) = true := by rw [rf1] at r1; simpa using r1
        (try simp only [wk, wl, wx, reduceLT, reduceEqDiff, Nat.reduceBEq, reduceIte, rf1])
        (repeat refine WC.seq ?_)
        refine WC.cond (b := false) (by (try simp only [wk, wl, wx, reduceLT, reduceEqDiff, Nat.reduceBEq, reduceIte]); (try simp); (try omega)) ?_
        (try simp only [wk, wl, wx, reduceLT, reduceEqDiff, Nat.reduceBEq, reduceIte])
        ((repeat refine WC.seq ?_); refine WC.run ?_)
        (try simp only [wk, wl, wx, reduceLT, reduceEqDiff, Nat.reduceBEq, reduceIte, rf2])
        (repeat refine WC.seq ?_)
        refine WC.cond (b := true) (by (try simp only [wk, wl, wx, reduceLT, reduceEqDiff, Nat.reduceBEq, reduceIte]); (try simp); (try omega)) ?_
        (try simp only [wk, wl, wx, reduceLT, reduceEqDiff, Nat.reduceBEq, reduceIte])
        ((repeat refine WC.seq ?_); refine WC.run ?_)
        (try simp only [wk, wl, wx, reduceLT, reduceEqDiff, Nat.reduceBEq, reduceIte, t5, fa77_1, fa77_2, Nat.zero_add, ld9])
        refine (call_ok (n := u.n) (nm := u.nm) pm9 (by omega) hgd).mono fun v h10 ⟨e10, pm10, f10⟩ => ?_
        subst e10
        have x10 := f10.next
        have pn10 := pn9.fixX hcs (f10.sub fun b hb => hb.elim (fun q => by omega) fun q => by have : b < h.next := q.1; omega)
        have ld10 := ld h10 (.inr (f10.sub fun b hb => by omega))
        (try simp only [wk, wl, wx, reduceLT, reduceEqDiff, Nat.reduceBEq, reduceIte, callV])
        ((repeat refine WC.seq ?_); refine WC.run ?_)
        (try simp only [wk, wl, wx, reduceLT, reduceEqDiff, Nat.reduceBEq, reduceIte, t6, fa77_1, fa77_2, Nat.zero_add, ld10])
        refine (rcall_ok (n := u.n) (nm := u.nm) pn10 (by omega) hgd).mono fun v h11 ⟨e11, pn11, f11⟩ => ?_
        subst e11
        have x11 := f11.next
        have pm11 := pm10.fix (f11.sub fun b hb => by omega)
        (try simp only [wk, wl, wx, reduceLT, reduceEqDiff, Nat.reduceBEq, reduceIte, callV])
        ((repeat refine WC.seq ?_); refine WC.run ?_)
        (try simp only [wk, wl, wx, reduceLT, reduceEqDiff, Nat.reduceBEq, reduceIte, i64, un, beq_self_eq_true, eql_bb])
        refine ⟨by trivial, _, (callP xs u.n u.nm).1, rfl, ⟨by omega, fun b hb => by rw [f11.same b (by omega), f10.same b (by omega)]⟩, pm11, pn11, callP_good hgd, by rw [callP_length]; omega, ?_⟩
        (try simp only [wk, wl, wx, reduceLT, reduceEqDiff, Nat.reduceBEq, reduceIte, t5, t6, t58, t59, t60])
        simp
      ·have rf1 : (R == 1) = false := by cases hq : (R == 1) <;> simp [hq] at r1 ⊢
       have rf2 : (R == 2) = false := by cases hq : (R == 2) <;> simp [hq] at r1 ⊢
       (try simp only [wk, wl, wx, reduceLT, reduceEqDiff, Nat.reduceBEq, reduceIte, rf1])
       (repeat refine WC.seq ?_)
       refine WC.cond (b := false) (by (try simp only [wk, wl, wx, reduceLT, reduceEqDiff, Nat.reduceBEq, reduceIte]); (try simp); (try omega)) ?_
       (try simp only [wk, wl, wx, reduceLT, reduceEqDiff, Nat.reduceBEq, reduceIte])
       ((repeat refine WC.seq ?_); refine WC.run ?_)
       (try simp only [wk, wl, wx, reduceLT, reduceEqDiff, Nat.reduceBEq, reduceIte, rf2])
       (repeat refine WC.seq ?_)
       refine WC.cond (b := false) (by (try simp only [wk, wl, wx, reduceLT, reduceEqDiff, Nat.reduceBEq, reduceIte]); (try simp); (try omega)) ?_
       (try simp only [wk, wl, wx, reduceLT, reduceEqDiff, Nat.reduceBEq, reduceIte])
       ((repeat refine WC.seq ?_); refine WC.run ?_)
       (try simp only [wk, wl, wx, reduceLT, reduceEqDiff, Nat.reduceBEq, reduceIte, t5])
       refine (bindAll_ok pm9 (by omega) hgd).mono fun v h10 ⟨e10, pm10, f10⟩ => ?_
       subst e10
       have x10 := f10.next
       have pn10 := pn9.fixX hcs (f10.sub fun b hb => hb.elim (fun q => by omega) fun q => by have : b < h.next := q.1; omega)
       (try simp only [wk, wl, wx, reduceLT, reduceEqDiff, Nat.reduceBEq, reduceIte])
       ((repeat refine WC.seq ?_); refine WC.run ?_)
       (try simp only [wk, wl, wx, reduceLT, reduceEqDiff, Nat.reduceBEq, reduceIte, t6])
       refine (rbindAll_ok pn10 (by omega) hgd).mono fun v h11 ⟨e11, pn11, f11⟩ => ?_
       subst e11
       have x11 := f11.next
       have pm11 := pm10.fix (f11.sub fun b hb => by omega)
       (try simp only [wk, wl, wx, reduceLT, reduceEqDiff, Nat.reduceBEq, reduceIte])
       ((repeat refine WC.seq ?_); refine WC.run ?_)
       (try simp only [wk, wl, wx, reduceLT, reduceEqDiff, Nat.reduceBEq, reduceIte, i64, un, beq_self_eq_true])
       refine ⟨by trivial, _, (bindAllP xs).1, rfl, ⟨by omega, fun b hb => by rw [f11.same b (by omega), f10.same b (by omega)]⟩, pm11, pn11, bindAllP_good hgd, by rw [bindAllP_length]; omega, ?_⟩
       (try simp only [wk, wl, wx, reduceLT, reduceEqDiff, Nat.reduceBEq, reduceIte, t5, t6, t58, t59, t60])
       simp
    ·rintro e fr hz ⟨rfl, ts, xs', rfl, fz, pmz, pnz, hgz, hlz, t5, t6, t10, t11, t58, t59, t60⟩
     have xz := fz.next
     have hhz := pnz.his
     have ldz := ld hz (.inr (fz.sub fun b hb => by omega))
     (try simp only [wk, wl, wx, reduceLT, reduceEqDiff, Nat.reduceBEq, reduceIte])
     ((repeat refine WC.seq ?_); refine WC.run ?_)
     (try simp only [wk, wl, wx, reduceLT, reduceEqDiff, Nat.reduceBEq, reduceIte, t5, t10, fa77_1, Nat.zero_add, ldz])
     refine (bytes31_ok (n := u.n) pmz (by omega) hgz).mono fun v h10 ⟨⟨s1, e10, bs1, in1⟩, f10⟩ => ?_
     subst e10
     have x10 := f10.next
     have ld10 := ld h10 (.inr ((fz.sub fun b hb => by omega).trans (f10.sub fun b hb => by omega)))
     have pm10 := pmz.kept f10
     have pn10 := pnz.kept f10
     (try simp only [wk, wl, wx, reduceLT, reduceEqDiff, Nat.reduceBEq, reduceIte])
     ((repeat refine WC.seq ?_); refine WC.run ?_)
     (try simp only [wk, wl, wx, reduceLT, reduceEqDiff, Nat.reduceBEq, reduceIte, t6, t10, fa77_1, Nat.zero_add, ld10])
     refine (bytes32_ok (n := u.n) pn10 (by omega) hgz).mono fun v h11 ⟨⟨s2, e11, bs2, in2⟩, f11⟩ => ?_
     subst e11
     have x11 := f11.next
     have bs1' : Bs g h11 s1 (bytesP xs' u.n).1 := Sl.fix bs1 (in1.sub fun b hb => hb.2) f11
     have pm11 := pm10.kept f11
     have pn11 := pn10.kept f11
     (try simp only [wk, wl, wx, reduceLT, reduceEqDiff, Nat.reduceBEq, reduceIte])
     ((repeat refine WC.seq ?_); refine WC.run ?_)
     (try simp only [wk, wl, wx, reduceLT, reduceEqDiff, Nat.reduceBEq, reduceIte, t11, un, un_not, Bool.not_true, conv_str bs1', conv_str bs2, i64, bin_sneq, beq_self_eq_true, Bool.not_true, bne_self_eq_false, t5, t6])
     refine (images33_ok pm11).mono fun v h12 ⟨e12, e12'⟩ => ?_
     subst e12 e12'
     (try simp only [wk, wl, wx, reduceLT, reduceEqDiff, Nat.reduceBEq, reduceIte, t5, t6])
     refine (images34_ok pn11).mono fun v h13 ⟨e13, e13'⟩ => ?_
     subst e13 e13'
     (try simp only [wk, wl, wx, reduceLT, reduceEqDiff, Nat.reduceBEq, reduceIte, bne_self_eq_false, t5, t6, un])
     refine (entry35_ok pm11).mono fun v h14 ⟨e14, e14'⟩ => ?_
     subst e14 e14'
     (try simp only [wk, wl, wx, reduceLT, reduceEqDiff, Nat.reduceBEq, reduceIte, t5, t6])
     refine (entry36_ok pn11).mono fun v h15 ⟨e15, e15'⟩ => ?_
     subst e15 e15'
     (try simp only [wk, wl, wx, reduceLT, reduceEqDiff, Nat.reduceBEq, reduceIte, bne_self_eq_false, un])
     (repeat refine WC.seq ?_)
     refine WC.cond (b := false) (by (try simp only [wk, wl, wx, reduceLT, reduceEqDiff, Nat.reduceBEq, reduceIte]); (try simp); (try omega)) (WC.skip ?_)
     (try simp only [wk, wl, wx, reduceLT, reduceEqDiff, Nat.reduceBEq, reduceIte])
     ((repeat refine WC.seq ?_); refine WC.run ?_)
     (try simp only [wk, wl, wx, reduceLT, reduceEqDiff, Nat.reduceBEq, reduceIte, t60, bin_add])
     refine ⟨_, ?_, _, i + 1, xs', rfl, ⟨by omega, fun b hb => by rw [f11.same b (by omega), f10.same b (by omega), fz.same b (by omega), F29.same b hb]⟩, rfl, by omega, pm11, pn11, hgz, hlz, ?_⟩
     ·omega
     (try simp only [wk, wl, wx, reduceLT, reduceEqDiff, Nat.reduceBEq, reduceIte, t5, t6, t58, t59])
     refine ⟨trivial, trivial, trivial, trivial, ?_⟩
     rw [wrap64 (by omega) (by omega)]; rfl
   ·refine WC.cond (b := false) (by (try simp only [wk, wl, wx, reduceLT, reduceEqDiff, Nat.reduceBEq, reduceIte]); (try simp); (try omega)) (WC.exit ?_)
    (try simp only [wk, wl, wx, reduceLT, reduceEqDiff, Nat.reduceBEq, reduceIte])
    ((repeat refine WC.seq ?_); refine WC.run ?_)
    (try simp only [wk, wl, wx, reduceLT, reduceEqDiff, Nat.reduceBEq, reduceIte])
    refine awake_ok ?_
    (try simp only [wk, wl, wx, reduceLT, reduceEqDiff, Nat.reduceBEq, reduceIte])
    refine WC.ret ?_
    (try simp only [wk, wl, wx, reduceLT, reduceEqDiff, Nat.reduceBEq, reduceIte])
  all_goals (try simp only [wk, wl, wx, reduceLT, reduceEqDiff, Nat.reduceBEq, reduceIte])
  all_goals (first | done | rfl | trivial | simp)
end Go.Proofs.OP
