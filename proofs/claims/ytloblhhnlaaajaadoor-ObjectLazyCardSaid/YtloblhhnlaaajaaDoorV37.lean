/- Walks: ref.Load. Printed by genS15.py. -/
import Derived.Test.YtloblhhnlaaajaaDoorV15
import Derived.Test.YtloblhhnlaaajaaDoorV36
set_option linter.unusedVariables false
set_option linter.unusedSimpArgs false
set_option linter.defProp false
set_option linter.unusedSimpArgs false
namespace Go.Proofs.OP
open Go Go.Ev
open Go.Proofs
open Nat (reduceLT reduceEqDiff)
variable {g : T (List V)}

theorem build149 {b o n : Nat} {c : Cp} : buildV (E g) 219 [(0, .slice b o n c)] = some (.agg [.slice b o n c]) := by
 simp only [buildV, ty219, fillAll, nth, sizeOf_of ty83, List.all_cons, List.all_nil, ty83, Option.isSome_some, Bool.and_true, Bool.not_true, cond_false]
 rfl
theorem namesF_nodup : ∀ {L p : List (List UInt8)}, p.Nodup → (namesF p L).2 = 0 → (p ++ L).Nodup
 | [], p, hp, _ => by simpa using hp
 | s :: r, p, hp, h => by
  rw [namesF] at h
  split at h
  ·rename_i hn; exact absurd h hn
  ·split at h
   ·cases h
   ·rename_i hc
    have hs : s ∉ p := fun hm => hc (List.contains_iff_mem.2 hm)
    have := namesF_nodup (p := p ++ [s]) (L := r) (by
     rw [List.nodup_append]
     exact ⟨hp, by simp, fun a ha b hb e => hs (by rw [List.mem_singleton] at hb; rw [← hb, ← e]; exact ha)⟩) h
    rwa [List.append_assoc, List.singleton_append] at this
theorem idxI_miss {α : Type} {P : α → Bool} {L : List α} {i : Nat} (hi : i < L.length) (h : P L[i] = false) : idxI P (L.take (i + 1)) = idxI P (L.take i) := by
 have key : ∀ (A : List α), fstI P (A ++ [L[i]]) = fstI P A := fun A => by
  induction A with
  | nil => simp [fstI, h]
  | cons a r ih => rw [List.cons_append, fstI, fstI, ih]
 unfold idxI
 rw [List.take_succ_eq_append_getElem hi, key]
theorem idxI_hit {α : Type} {P : α → Bool} {L : List α} {i : Nat} (hi : i < L.length) (h : P L[i] = true) (hn : ∀ j (hj : j < L.length), j < i → P L[j] = false) : idxI P (L.take (i + 1)) = (i : Int) := by
 unfold idxI
 rw [fstI_at (L := L.take (i + 1)) (i := i) (by rw [List.length_take]; omega) (fun j hj hji => by rw [List.getElem_take]; exact hn j (by omega) hji) (by rw [List.getElem_take]; exact h)]
theorem take_contains {L : List Int} {i : Nat} {n : Int} (hi : i < L.length) : (L.take (i + 1)).contains n = ((L.take i).contains n || L[i] == n) := by
 rw [List.take_succ_eq_append_getElem hi, List.contains_eq_any_beq, List.contains_eq_any_beq, List.any_append, List.any_cons, List.any_nil, Bool.or_false]
 have : (n == L[i]) = (L[i] == n) := by rw [Bool.eq_iff_iff, beq_iff_eq, beq_iff_eq]; exact ⟨Eq.symm, Eq.symm⟩
 rw [this]
theorem take_any {α : Type} {P : α → Bool} {L : List α} {i : Nat} (hi : i < L.length) : (L.take (i + 1)).any P = ((L.take i).any P || P L[i]) := by
 rw [List.take_succ_eq_append_getElem hi, List.any_append, List.any_cons, List.any_nil, Bool.or_false]

set_option maxRecDepth 100000 in
set_option maxHeartbeats 8000000 in
theorem rload_ok {K : Nat → Prop} {h : H} {c : Ic} {x : ImgD} {ls ns : V} {L : List (Ic × ImgD)} {N : List (List UInt8)} (hK : ∀ b, K b → b < h.next) (imK : Im g h K c x) (fit : FitsI x) (hLK : Ims g h K ls L) (hfit : ∀ p ∈ L, FitsI p.2) (hN : Ss g h ns N) (inN : In (· < h.next) ns) (lL : L.length < 2 ^ 40) (lN : N.length < 2 ^ 40) :
  WF (E g) 78 [.agg (c.cells x), ls, ns] h fun v h' => LdQ g K h x (L.map (·.2)) N v h' := by
 have im := imK.up hK
 have hL := hLK.up hK
 refine WF.enter fn78 rfl ?_
 ((repeat refine WC.seq ?_); refine WC.run ?_)
 (try simp only [wk, wl, wx, reduceLT, reduceEqDiff, Nat.reduceBEq, reduceIte])
 refine wop_box (v := .agg (c.cells x)) (by (try simp only [wk, wl, wx, reduceLT, reduceEqDiff, Nat.reduceBEq, reduceIte])) ?_
 intro h1 b1 n1 f1
 (try simp only [wk, wl, wx, reduceLT, reduceEqDiff, Nat.reduceBEq, reduceIte])
 refine wop_alloc ty35 ?_
 intro h2 b2 n2 f2
 (try simp only [wk, wl, wx, reduceLT, reduceEqDiff, Nat.reduceBEq, reduceIte])
 have b1 : Has h1 h.next (c.cells x) := b1
 have a2 := b1.fix f2 (by omega)
 have F2 : Kept h h2 := f1.trans (f2.sub fun b hb => by omega)
 have im2 := (im.fix F2 fun _ h => h).up (K' := (· < h2.next)) fun b hb => by omega
 have hL2 := (hL.fix F2 fun _ h => h).up (K' := (· < h2.next)) fun b hb => by omega
 have hN2 := Sl.fix hN inN F2
 have l1 : loadP (E g) h2 60 (.ptr h.next 0) = some (.agg (c.cells x)) := a2.agg ty60 rfl (Nat.le_refl 7)
 generalize hlibs : L.map (·.2) = libs
 have lmL : L.length = libs.length := by rw [← hlibs, List.length_map]
 ((repeat refine WC.seq ?_); refine WC.run ?_)
 (try simp only [wk, wl, wx, reduceLT, reduceEqDiff, Nat.reduceBEq, reduceIte, Sl.lenB hL2.sl ty83 rfl])
 (repeat refine WC.seq ?_)
 have gf : ∀ {a b : Int}, givenF x libs N = (a, b) → b ≠ 0 → ldP x libs N = (none, a, b) := fun {a b} e e' => by unfold ldP; rw [e, if_pos e']
 by_cases h50 : (50 : Int) < L.length
 ·refine WC.cond (b := true) (by (try simp only [wk, wl, wx, reduceLT, reduceEqDiff, Nat.reduceBEq, reduceIte, decide_eq_true h50]); (try simp); (try omega)) ?_
  (try simp only [wk, wl, wx, reduceLT, reduceEqDiff, Nat.reduceBEq, reduceIte])
  ((repeat refine WC.seq ?_); refine WC.run ?_)
  (try simp only [wk, wl, wx, reduceLT, reduceEqDiff, Nat.reduceBEq, reduceIte, build73])
  (try simp only [wk, wl, wx, reduceLT, reduceEqDiff, Nat.reduceBEq, reduceIte, un])
  refine sat_store b2 ty35 rfl (Nat.le_refl 2) rfl ?_
  intro hz az nz fz
  have lz : loadP (E g) hz 35 (.ptr h1.next 0) = some (.agg (faultV (-1, 18))) := az.agg ty35 rfl (Nat.le_refl 2)
  (try simp only [wk, wl, wx, reduceLT, reduceEqDiff, Nat.reduceBEq, reduceIte])
  refine WC.ret ?_
  have hPz : ldP x libs N = (none, -1, 18) := by
   exact gf (by unfold givenF; rw [if_pos (by omega)]) (by decide)
  (try simp only [wk, wl, wx, reduceLT, reduceEqDiff, Nat.reduceBEq, reduceIte, lz])
  exact ⟨⟨by omega, fun b hb => by rw [fz.same b (by omega), F2.same b hb]⟩, _, by rw [hPz], by rw [hPz]⟩
 refine WC.cond (b := false) (by (try simp only [wk, wl, wx, reduceLT, reduceEqDiff, Nat.reduceBEq, reduceIte, decide_eq_false h50]); (try simp); (try omega)) (WC.skip ?_)
 (try simp only [wk, wl, wx, reduceLT, reduceEqDiff, Nat.reduceBEq, reduceIte])
 ((repeat refine WC.seq ?_); refine WC.run ?_)
 rcases (Decidable.em (N.length = L.length)).symm with hne | hne
 ·have hbn : ((N.length : Int) != (L.length : Int)) = true := by simp; omega
  (try simp only [wk, wl, wx, reduceLT, reduceEqDiff, Nat.reduceBEq, reduceIte, Sl.lenB hL2.sl ty83 rfl, Sl.lenB hN2 ty30 rfl, hbn])
  (repeat refine WC.seq ?_)
  refine WC.cond (b := true) (by (try simp only [wk, wl, wx, reduceLT, reduceEqDiff, Nat.reduceBEq, reduceIte]); (try simp); (try omega)) ?_
  (try simp only [wk, wl, wx, reduceLT, reduceEqDiff, Nat.reduceBEq, reduceIte])
  ((repeat refine WC.seq ?_); refine WC.run ?_)
  (try simp only [wk, wl, wx, reduceLT, reduceEqDiff, Nat.reduceBEq, reduceIte, build73])
  (try simp only [wk, wl, wx, reduceLT, reduceEqDiff, Nat.reduceBEq, reduceIte, un])
  refine sat_store b2 ty35 rfl (Nat.le_refl 2) rfl ?_
  intro hz az nz fz
  have lz : loadP (E g) hz 35 (.ptr h1.next 0) = some (.agg (faultV (-1, 14))) := az.agg ty35 rfl (Nat.le_refl 2)
  (try simp only [wk, wl, wx, reduceLT, reduceEqDiff, Nat.reduceBEq, reduceIte])
  refine WC.ret ?_
  have hPz : ldP x libs N = (none, -1, 14) := by
   exact gf (by unfold givenF; rw [if_neg (by omega), if_pos (by omega)]) (by decide)
  (try simp only [wk, wl, wx, reduceLT, reduceEqDiff, Nat.reduceBEq, reduceIte, lz])
  exact ⟨⟨by omega, fun b hb => by rw [fz.same b (by omega), F2.same b hb]⟩, _, by rw [hPz], by rw [hPz]⟩
 have hbn : ((N.length : Int) != (L.length : Int)) = false := by simp; omega
 (try simp only [wk, wl, wx, reduceLT, reduceEqDiff, Nat.reduceBEq, reduceIte, Sl.lenB hL2.sl ty83 rfl, Sl.lenB hN2 ty30 rfl, hbn, l1])
 refine (rright_ok im2 fit).mono fun v h3 ⟨e3, f3⟩ => ?_
 subst e3
 rw [rright_eq]
 have x3 := f3.next
 have b3 := b2.fix f3 (by omega)
 have F3 : Kept h h3 := F2.trans (f3.sub fun b hb => by omega)
 have hL3 := hL2.fix f3 fun _ h => h
 have hN3 := Sl.fix hN2 (inN.sub fun b hb => by omega) f3
 (try simp only [wk, wl, wx, reduceLT, reduceEqDiff, Nat.reduceBEq, reduceIte, un_not])
 (repeat refine WC.seq ?_)
 cases hr : rightB x with
 | false =>
  refine WC.cond (b := true) (by (try simp only [wk, wl, wx, reduceLT, reduceEqDiff, Nat.reduceBEq, reduceIte, hr]); (try simp); (try omega)) ?_
  (try simp only [wk, wl, wx, reduceLT, reduceEqDiff, Nat.reduceBEq, reduceIte])
  ((repeat refine WC.seq ?_); refine WC.run ?_)
  (try simp only [wk, wl, wx, reduceLT, reduceEqDiff, Nat.reduceBEq, reduceIte, build73])
  (try simp only [wk, wl, wx, reduceLT, reduceEqDiff, Nat.reduceBEq, reduceIte, un])
  refine sat_store b3 ty35 rfl (Nat.le_refl 2) rfl ?_
  intro hz az nz fz
  have lz : loadP (E g) hz 35 (.ptr h1.next 0) = some (.agg (faultV (-1, 14))) := az.agg ty35 rfl (Nat.le_refl 2)
  (try simp only [wk, wl, wx, reduceLT, reduceEqDiff, Nat.reduceBEq, reduceIte])
  refine WC.ret ?_
  have hPz : ldP x libs N = (none, -1, 14) := by
   exact gf (by unfold givenF; rw [if_neg (by omega), if_neg (by omega), if_pos hr]) (by decide)
  (try simp only [wk, wl, wx, reduceLT, reduceEqDiff, Nat.reduceBEq, reduceIte, lz])
  exact ⟨⟨by omega, fun b hb => by rw [fz.same b (by omega), F3.same b hb]⟩, _, by rw [hPz], by rw [hPz]⟩
 | true =>
 refine WC.cond (b := false) (by (try simp only [wk, wl, wx, reduceLT, reduceEqDiff, Nat.reduceBEq, reduceIte, hr]); (try simp); (try omega)) (WC.skip ?_)
 (try simp only [wk, wl, wx, reduceLT, reduceEqDiff, Nat.reduceBEq, reduceIte])
 have hP0 : givenF x libs N = match fstI (fun x => !rightB x) libs with
  | some i => ((i : Int), 14)
  | none => namesF [] N := by
   unfold givenF; rw [if_neg (by omega), if_neg (by omega), if_neg (by simp [hr])]; rfl
 ((repeat refine WC.seq ?_); refine WC.run ?_)
 (try simp only [wk, wl, wx, reduceLT, reduceEqDiff, Nat.reduceBEq, reduceIte, Sl.lenB hL3.sl ty83 rfl])
 (repeat refine WC.seq ?_)
 refine WC.block ?_
 refine WC.while (fun m fr hh => ∃ ts i, fr = ⟨ts, 198, [], 78, none⟩ ∧ Fix (· < h3.next) h3 hh ∧ m = L.length - i ∧ i ≤ L.length ∧ ts.get 1 = some ls ∧ ts.get 2 = some ns ∧ ts.get 3 = some (.ptr h.next 0) ∧ ts.get 7 = some (.ptr h1.next 0) ∧ ts.get 44 = some ls ∧ ts.get 45 = some (.int .i64 L.length) ∧ ts.get 46 = some (.int .i64 i) ∧ ∀ j (hj : j < libs.length), j < i → (fun x => !rightB x) libs[j] = false) ?_ ⟨_, 0, rfl, Fix.refl _ _, rfl, by omega, ?_, ?_, ?_, ?_, ?_, ?_, ?_, fun j hj hji => absurd hji (Nat.not_lt_zero _)⟩
 ·rintro m fr hh ⟨ts, i, rfl, ff, rfl, hi, t1, t2, t3, t7, t44, t45, t46, hno⟩
  have xh := ff.next
  have bh := b3.fix ff (by omega)
  have Fh : Kept h hh := F3.trans (ff.sub fun b hb => by omega)
  have hLh := (hL3.fix ff fun b hb => by omega).up (K' := (· < hh.next)) fun b hb => by omega
  have hNh : Ss g hh ns N := Sl.fix hN3 (inN.sub fun b hb => by omega) ff
  ((repeat refine WC.seq ?_); refine WC.run ?_)
  (try simp only [wk, wl, wx, reduceLT, reduceEqDiff, Nat.reduceBEq, reduceIte, t45, t46])
  (repeat refine WC.seq ?_)
  by_cases hlt : i < L.length
  ·refine WC.cond (b := true) (by (try simp only [wk, wl, wx, reduceLT, reduceEqDiff, Nat.reduceBEq, reduceIte]); (try simp); (try omega)) (WC.skip ?_)
   (try simp only [wk, wl, wx, reduceLT, reduceEqDiff, Nat.reduceBEq, reduceIte])
   obtain ⟨p, p1, p2⟩ := hLh.sl.at (fun _ => rfl) ty83 rfl ty60 rfl (by decide) rfl hlt
   have p2 := p2 hh fun _ _ _ _ _ => rfl
   have hmem := List.getElem_mem hlt
   have imi := hLh.im _ hmem
   (repeat refine WC.seq ?_)
   refine WC.block ?_
   ((repeat refine WC.seq ?_); refine WC.run ?_)
   (try simp only [wk, wl, wx, reduceLT, reduceEqDiff, Nat.reduceBEq, reduceIte, t44, t46, p1, p2])
   refine wop_alloc ty60 ?_
   intro h4 b4 n4 f4
   (try simp only [wk, wl, wx, reduceLT, reduceEqDiff, Nat.reduceBEq, reduceIte])
   refine sat_store b4 ty60 rfl (Nat.le_refl 7) (Ic.one imi) ?_
   intro h5 b5 n5 f5
   have b5 : Has h5 hh.next (L[i].1.cells L[i].2) := b5
   have F5 : Kept hh h5 := ⟨by omega, fun b hb => by rw [f5.same b (by omega), f4.same b hb]⟩
   have l5 : loadP (E g) h5 60 (.ptr hh.next 0) = some (.agg (L[i].1.cells L[i].2)) := b5.agg ty60 rfl (Nat.le_refl 7)
   (try simp only [wk, wl, wx, reduceLT, reduceEqDiff, Nat.reduceBEq, reduceIte])
   ((repeat refine WC.seq ?_); refine WC.run ?_)
   (try simp only [wk, wl, wx, reduceLT, reduceEqDiff, Nat.reduceBEq, reduceIte, l5])
   refine (rright_ok ((imi.fix F5 fun _ h => h).up fun b hb => by omega) (hfit _ hmem)).mono fun v h6 ⟨e6, f6⟩ => ?_
   subst e6
   rw [rright_eq]
   have x6 := f6.next
   have b6 := (bh.fix F5 (by omega)).fix f6 (by omega)
   have F6 : Kept h h6 := ⟨by omega, fun b hb => by rw [f6.same b (by omega), F5.same b (by omega), Fh.same b hb]⟩
   have F36 : Fix (· < h3.next) h3 h6 := ⟨by omega, fun b hb => by rw [f6.same b (by omega), F5.same b (by omega), ff.same b hb]⟩
   (try simp only [wk, wl, wx, reduceLT, reduceEqDiff, Nat.reduceBEq, reduceIte, un_not])
   (repeat refine WC.seq ?_)
   have hq : libs[i]'(by omega) = L[i].2 := by subst hlibs; exact List.getElem_map _
   cases hri : rightB L[i].2 with
   | false =>
    refine WC.cond (b := true) (by (try simp only [wk, wl, wx, reduceLT, reduceEqDiff, Nat.reduceBEq, reduceIte, hri]); (try simp); (try omega)) ?_
    (try simp only [wk, wl, wx, reduceLT, reduceEqDiff, Nat.reduceBEq, reduceIte])
    ((repeat refine WC.seq ?_); refine WC.run ?_)
    (try simp only [wk, wl, wx, reduceLT, reduceEqDiff, Nat.reduceBEq, reduceIte, build73])
    (try simp only [wk, wl, wx, reduceLT, reduceEqDiff, Nat.reduceBEq, reduceIte, t7, un])
    refine sat_store b6 ty35 rfl (Nat.le_refl 2) rfl ?_
    intro hz az nz fz
    have lz : loadP (E g) hz 35 (.ptr h1.next 0) = some (.agg (faultV ((i : Int), 14))) := az.agg ty35 rfl (Nat.le_refl 2)
    (try simp only [wk, wl, wx, reduceLT, reduceEqDiff, Nat.reduceBEq, reduceIte])
    refine WC.ret ?_
    have hPz : ldP x libs N = (none, (i : Int), 14) := by
     exact gf (by rw [hP0, fstI_at (i := i) (by omega) hno (by rw [hq, hri]; rfl)]) (by decide)
    (try simp only [wk, wl, wx, reduceLT, reduceEqDiff, Nat.reduceBEq, reduceIte, t7, lz])
    exact ⟨⟨by omega, fun b hb => by rw [fz.same b (by omega), F6.same b hb]⟩, _, by rw [hPz], by rw [hPz]⟩
   | true =>
    refine WC.cond (b := false) (by (try simp only [wk, wl, wx, reduceLT, reduceEqDiff, Nat.reduceBEq, reduceIte, hri]); (try simp); (try omega)) (WC.skip ?_)
    (try simp only [wk, wl, wx, reduceLT, reduceEqDiff, Nat.reduceBEq, reduceIte])
    ((repeat refine WC.seq ?_); refine WC.run ?_)
    (try simp only [wk, wl, wx, reduceLT, reduceEqDiff, Nat.reduceBEq, reduceIte, t46, bin_add])
    refine ⟨_, ?_, _, i + 1, rfl, F36, rfl, by omega, ?_⟩
    ·omega
    (try simp only [wk, wl, wx, reduceLT, reduceEqDiff, Nat.reduceBEq, reduceIte, t1, t2, t3, t7, t44, t45])
    refine ⟨trivial, trivial, trivial, trivial, trivial, trivial, ?_, fun j hj hji => ?_⟩
    ·rw [wrap64 (by omega) (by omega)]; rfl
    ·rcases Nat.lt_succ_iff_lt_or_eq.1 hji with q | rfl
     ·exact hno j hj q
     ·rw [hq, hri]; rfl
  ·refine WC.cond (b := false) (by (try simp only [wk, wl, wx, reduceLT, reduceEqDiff, Nat.reduceBEq, reduceIte]); (try simp); (try omega)) (WC.exit ?_)
   have : i = L.length := by omega
   subst this
   (try simp only [wk, wl, wx, reduceLT, reduceEqDiff, Nat.reduceBEq, reduceIte])
   have hP1 : givenF x libs N = namesF [] N := by rw [hP0, fstI_none fun j hj => hno j hj (by omega)]
   ((repeat refine WC.seq ?_); refine WC.run ?_)
   (try simp only [wk, wl, wx, reduceLT, reduceEqDiff, Nat.reduceBEq, reduceIte, t2, Sl.lenB hNh ty30 rfl])
   (repeat refine WC.seq ?_)
   refine WC.block ?_
   refine WC.while (fun m fr hq => ∃ ts i, fr = ⟨ts, 198, [], 78, none⟩ ∧ hq = hh ∧ m = N.length - i ∧ i ≤ N.length ∧ ts.get 1 = some ls ∧ ts.get 2 = some ns ∧ ts.get 3 = some (.ptr h.next 0) ∧ ts.get 7 = some (.ptr h1.next 0) ∧ ts.get 57 = some ns ∧ ts.get 58 = some (.int .i64 N.length) ∧ ts.get 59 = some (.int .i64 i) ∧ namesF [] N = namesF (N.take i) (N.drop i)) ?_ ⟨_, 0, rfl, rfl, rfl, by omega, ?_, ?_, ?_, ?_, ?_, ?_, ?_, by simp⟩
   ·rintro m fr hq ⟨ts, i, rfl, rfl, rfl, hi, t1, t2, t3, t7, t57, t58, t59, hnf⟩
    ((repeat refine WC.seq ?_); refine WC.run ?_)
    (try simp only [wk, wl, wx, reduceLT, reduceEqDiff, Nat.reduceBEq, reduceIte, t58, t59])
    (repeat refine WC.seq ?_)
    by_cases hlt : i < N.length
    ·refine WC.cond (b := true) (by (try simp only [wk, wl, wx, reduceLT, reduceEqDiff, Nat.reduceBEq, reduceIte]); (try simp); (try omega)) (WC.skip ?_)
     (try simp only [wk, wl, wx, reduceLT, reduceEqDiff, Nat.reduceBEq, reduceIte])
     obtain ⟨p, p1, p2⟩ := hNh.at ty30 rfl ty9 rfl rfl hlt
     have p2 := p2 hq fun _ _ _ _ _ => rfl
     rw [namesF_step hlt] at hnf
     (repeat refine WC.seq ?_)
     refine WC.block ?_
     ((repeat refine WC.seq ?_); refine WC.run ?_)
     (try simp only [wk, wl, wx, reduceLT, reduceEqDiff, Nat.reduceBEq, reduceIte, t57, t59, p1, p2])
     ((repeat refine WC.seq ?_); refine WC.run ?_)
     (try simp only [wk, wl, wx, reduceLT, reduceEqDiff, Nat.reduceBEq, reduceIte])
     refine (rnamed_ok).mono fun v h4 ⟨e4, e4'⟩ => ?_
     subst e4 e4'
     (try simp only [wk, wl, wx, reduceLT, reduceEqDiff, Nat.reduceBEq, reduceIte])
     ((repeat refine WC.seq ?_); refine WC.run ?_)
     (try simp only [wk, wl, wx, reduceLT, reduceEqDiff, Nat.reduceBEq, reduceIte])
     (repeat refine WC.seq ?_)
     by_cases hnm : nameE N[i] = 0
     ·refine WC.cond (b := false) (by (try simp only [wk, wl, wx, reduceLT, reduceEqDiff, Nat.reduceBEq, reduceIte, hnm]); (try simp); (try omega)) (WC.skip ?_)
      (try simp only [wk, wl, wx, reduceLT, reduceEqDiff, Nat.reduceBEq, reduceIte])
      obtain ⟨s', hs1, hs2, _⟩ := Sl.sub hNh ty30 rfl (sizeOf_of ty9) (lo := none) (hi := some i) (l := 0) (r := i) rfl rfl (Nat.zero_le _) (by omega)
      have hlk : (N.take i).length = i := by rw [List.length_take, Nat.min_eq_left (by omega)]
      have hs2 : Ss g h4 s' (N.take i) := by
       show Sl (E g) h4 1 s' (N.take i).length ((N.take i).map V.str)
       rw [hlk, List.map_take]
       simpa using hs2
      have hs1 : sliceV (E g) 30 ns none (some (.int .i64 i)) none = some s' := hs1
      ((repeat refine WC.seq ?_); refine WC.run ?_)
      (try simp only [wk, wl, wx, reduceLT, reduceEqDiff, Nat.reduceBEq, reduceIte, t2, t59, hs1, Sl.lenB hs2 ty30 rfl])
      (repeat refine WC.seq ?_)
      refine WC.block ?_
      refine WC.while (fun m fr hp => ∃ ts j, fr = ⟨ts, 198, [], 78, none⟩ ∧ hp = h4 ∧ m = (N.take i).length - j ∧ j ≤ (N.take i).length ∧ ts.get 1 = some ls ∧ ts.get 2 = some ns ∧ ts.get 3 = some (.ptr h.next 0) ∧ ts.get 7 = some (.ptr h1.next 0) ∧ ts.get 10 = some (.int .i64 i) ∧ ts.get 11 = some (.str N[i]) ∧ ts.get 57 = some ns ∧ ts.get 58 = some (.int .i64 N.length) ∧ ts.get 59 = some (.int .i64 i) ∧ ts.get 73 = some s' ∧ ts.get 74 = some (.int .i64 (N.take i).length) ∧ ts.get 75 = some (.int .i64 j) ∧ ((N.take i).take j).any (fun r => r == N[i]) = false) ?_ ⟨_, 0, rfl, rfl, rfl, by omega, ?_, ?_, ?_, ?_, ?_, ?_, ?_, ?_, ?_, ?_, ?_, ?_, by simp⟩
      ·rintro m fr hp ⟨ts, j, rfl, rfl, rfl, hj, t1, t2, t3, t7, t10, t11, t57, t58, t59, t73, t74, t75, hno2⟩
       ((repeat refine WC.seq ?_); refine WC.run ?_)
       (try simp only [wk, wl, wx, reduceLT, reduceEqDiff, Nat.reduceBEq, reduceIte, t74, t75])
       (repeat refine WC.seq ?_)
       by_cases hjt : j < (N.take i).length
       ·refine WC.cond (b := true) (by (try simp only [wk, wl, wx, reduceLT, reduceEqDiff, Nat.reduceBEq, reduceIte]); (try simp); (try omega)) (WC.skip ?_)
        (try simp only [wk, wl, wx, reduceLT, reduceEqDiff, Nat.reduceBEq, reduceIte])
        obtain ⟨r, r1, r2⟩ := hs2.at ty30 rfl ty9 rfl rfl hjt
        have r2 := r2 hp fun _ _ _ _ _ => rfl
        (repeat refine WC.seq ?_)
        refine WC.block ?_
        ((repeat refine WC.seq ?_); refine WC.run ?_)
        (try simp only [wk, wl, wx, reduceLT, reduceEqDiff, Nat.reduceBEq, reduceIte, t73, t75, r1, r2])
        ((repeat refine WC.seq ?_); refine WC.run ?_)
        (try simp only [wk, wl, wx, reduceLT, reduceEqDiff, Nat.reduceBEq, reduceIte, t11, bin_seql])
        (repeat refine WC.seq ?_)
        cases hb : ((N.take i)[j] == N[i]) with
        | true =>
         refine WC.cond (b := true) (by (try simp only [wk, wl, wx, reduceLT, reduceEqDiff, Nat.reduceBEq, reduceIte, hb]); (try simp); (try omega)) ?_
         (try simp only [wk, wl, wx, reduceLT, reduceEqDiff, Nat.reduceBEq, reduceIte])
         ((repeat refine WC.seq ?_); refine WC.run ?_)
         (try simp only [wk, wl, wx, reduceLT, reduceEqDiff, Nat.reduceBEq, reduceIte, t10, build73])
         (try simp only [wk, wl, wx, reduceLT, reduceEqDiff, Nat.reduceBEq, reduceIte, t7, un])
         refine sat_store bh ty35 rfl (Nat.le_refl 2) rfl ?_
         intro hz az nz fz
         have lz : loadP (E g) hz 35 (.ptr h1.next 0) = some (.agg (faultV ((i : Int), 38))) := az.agg ty35 rfl (Nat.le_refl 2)
         (try simp only [wk, wl, wx, reduceLT, reduceEqDiff, Nat.reduceBEq, reduceIte])
         refine WC.ret ?_
         have hPz : ldP x libs N = (none, (i : Int), 38) := by
          exact gf (by rw [hP1, hnf, if_neg (by simp [hnm]), if_pos (List.contains_iff_mem.2 (by rw [← eq_of_beq hb]; exact List.getElem_mem hjt))]) (by decide)
         (try simp only [wk, wl, wx, reduceLT, reduceEqDiff, Nat.reduceBEq, reduceIte, t7, lz])
         exact ⟨⟨by omega, fun b hb => by rw [fz.same b (by omega), Fh.same b hb]⟩, _, by rw [hPz], by rw [hPz]⟩
        | false =>
         refine WC.cond (b := false) (by (try simp only [wk, wl, wx, reduceLT, reduceEqDiff, Nat.reduceBEq, reduceIte, hb]); (try simp); (try omega)) (WC.skip ?_)
         (try simp only [wk, wl, wx, reduceLT, reduceEqDiff, Nat.reduceBEq, reduceIte])
         ((repeat refine WC.seq ?_); refine WC.run ?_)
         (try simp only [wk, wl, wx, reduceLT, reduceEqDiff, Nat.reduceBEq, reduceIte, t75, bin_add])
         refine ⟨_, ?_, _, j + 1, rfl, by trivial, rfl, by omega, ?_⟩
         ·omega
         (try simp only [wk, wl, wx, reduceLT, reduceEqDiff, Nat.reduceBEq, reduceIte, t1, t2, t3, t7, t10, t11, t57, t58, t59, t73, t74])
         refine ⟨trivial, trivial, trivial, trivial, trivial, trivial, trivial, trivial, trivial, trivial, trivial, ?_, ?_⟩
         ·rw [wrap64 (by omega) (by omega)]; rfl
         ·rw [take_any hjt, hno2, hb]; rfl
       ·refine WC.cond (b := false) (by (try simp only [wk, wl, wx, reduceLT, reduceEqDiff, Nat.reduceBEq, reduceIte]); (try simp); (try omega)) (WC.exit ?_)
        have : j = (N.take i).length := by omega
        subst this
        (try simp only [wk, wl, wx, reduceLT, reduceEqDiff, Nat.reduceBEq, reduceIte, show Nat.beq 4 4 = true from rfl])
        have hct : (N.take i).contains N[i] = false := by
         rw [List.contains_eq_any_beq, Bool.eq_false_iff]
         intro hc
         obtain ⟨y, hy, e⟩ := List.any_eq_true.1 hc
         rw [List.take_length] at hno2
         have := (List.any_eq_true (p := fun r => r == N[i])).2 ⟨y, hy, (show (fun r => r == N[i]) y = true by rw [← eq_of_beq e]; simp)⟩
         rw [hno2] at this; cases this
        ((repeat refine WC.seq ?_); refine WC.run ?_)
        (try simp only [wk, wl, wx, reduceLT, reduceEqDiff, Nat.reduceBEq, reduceIte, t59, bin_add])
        refine ⟨_, ?_, _, i + 1, rfl, by trivial, rfl, by omega, ?_⟩
        ·omega
        (try simp only [wk, wl, wx, reduceLT, reduceEqDiff, Nat.reduceBEq, reduceIte, t1, t2, t3, t7, t57, t58])
        refine ⟨trivial, trivial, trivial, trivial, trivial, trivial, ?_, ?_⟩
        ·rw [wrap64 (by omega) (by omega)]; rfl
        ·rw [hnf, if_neg (by simp [hnm]), if_neg (by rw [hct]; simp)]
      all_goals (try simp only [wk, wl, wx, reduceLT, reduceEqDiff, Nat.reduceBEq, reduceIte, t1, t2, t3, t7, t57, t58, t59])
      all_goals (first | done | rfl | trivial | simp)
     ·refine WC.cond (b := true) (by (try simp only [wk, wl, wx, reduceLT, reduceEqDiff, Nat.reduceBEq, reduceIte, hnm]); (try simp); (try omega)) ?_
      (try simp only [wk, wl, wx, reduceLT, reduceEqDiff, Nat.reduceBEq, reduceIte])
      ((repeat refine WC.seq ?_); refine WC.run ?_)
      (try simp only [wk, wl, wx, reduceLT, reduceEqDiff, Nat.reduceBEq, reduceIte, build73])
      (try simp only [wk, wl, wx, reduceLT, reduceEqDiff, Nat.reduceBEq, reduceIte, t7, un])
      refine sat_store bh ty35 rfl (Nat.le_refl 2) rfl ?_
      intro hz az nz fz
      have lz : loadP (E g) hz 35 (.ptr h1.next 0) = some (.agg (faultV ((i : Int), nameE N[i]))) := az.agg ty35 rfl (Nat.le_refl 2)
      (try simp only [wk, wl, wx, reduceLT, reduceEqDiff, Nat.reduceBEq, reduceIte])
      refine WC.ret ?_
      have hPz : ldP x libs N = (none, (i : Int), nameE N[i]) := by
       exact gf (by rw [hP1, hnf, if_pos hnm]) hnm
      (try simp only [wk, wl, wx, reduceLT, reduceEqDiff, Nat.reduceBEq, reduceIte, t7, lz])
      exact ⟨⟨by omega, fun b hb => by rw [fz.same b (by omega), Fh.same b hb]⟩, _, by rw [hPz], by rw [hPz]⟩
    ·refine WC.cond (b := false) (by (try simp only [wk, wl, wx, reduceLT, reduceEqDiff, Nat.reduceBEq, reduceIte]); (try simp); (try omega)) (WC.exit ?_)
     have : i = N.length := by omega
     subst this
     (try simp only [wk, wl, wx, reduceLT, reduceEqDiff, Nat.reduceBEq, reduceIte])
     have hg0 : (givenF x libs N).2 = 0 := by rw [hP1, hnf, List.drop_length, namesF]
     obtain ⟨-, hnl, smx, gl, hnm0⟩ := givenF_good hg0
     have hnd : N.Nodup := by
      have := namesF_nodup (p := []) (L := N) (by simp) (by rw [hnm0]; exact hg0)
      simpa using this
     have hP : ldP x libs N = if (loadR x libs N).2.2 ≠ 0 then (none, (loadR x libs N).2) else (some (loadR x libs N).1.2, 0, 0) := by unfold ldP; rw [if_neg (by simp [hg0])]
     generalize hq6 : hq = h6 at *
     have a6 : Has h6 h.next (c.cells x) := (a2.fix f3 (by omega)).fix ff (by omega)
     have im6 := (im.fix Fh fun _ h => h).up (K' := (· < h6.next)) fun b hb => by omega
     have l6 : loadP (E g) h6 60 (.ptr h.next 0) = some (.agg (c.cells x)) := a6.agg ty60 rfl (Nat.le_refl 7)
     ((repeat refine WC.seq ?_); refine WC.run ?_)
     (try simp only [wk, wl, wx, reduceLT, reduceEqDiff, Nat.reduceBEq, reduceIte, t3, l6])
     refine (own_ok im6 fit).mono fun v h7 ⟨⟨c1, e7, nw, ix7, in7⟩, f7⟩ => ?_
     subst e7
     have x7 := f7.next
     (try simp only [wk, wl, wx, reduceLT, reduceEqDiff, Nat.reduceBEq, reduceIte])
     refine sat_buildSlice (cs := c1.cells x) ty83 rfl ty60 rfl (by decide) (by decide) (fill7 rfl) rfl ?_
     intro h8 bf8 n8 f8
     (try simp only [wk, wl, wx, reduceLT, reduceEqDiff, Nat.reduceBEq, reduceIte, build149])
     refine wop_box (v := .agg [.slice h7.next 0 1 (.lit 1)]) (by (try simp only [wk, wl, wx, reduceLT, reduceEqDiff, Nat.reduceBEq, reduceIte])) ?_
     intro h9 b9 n9 f9
     (try simp only [wk, wl, wx, reduceLT, reduceEqDiff, Nat.reduceBEq, reduceIte])
     have b9 : Has h9 h8.next [.slice h7.next 0 1 (.lit 1)] := b9
     ((repeat refine WC.seq ?_); refine WC.run ?_)
     (try simp only [wk, wl, wx, reduceLT, reduceEqDiff, Nat.reduceBEq, reduceIte])
     refine sat_slice1 (v := i64 (-1)) ty211 rfl ty3 rfl rfl rfl ?_
     intro h10 bf10 n10 f10
     (try simp only [wk, wl, wx, reduceLT, reduceEqDiff, Nat.reduceBEq, reduceIte])
     have F7 : Kept h7 h10 := ⟨by omega, fun b hb => by rw [f10.same b (by omega), f9.same b (by omega), f8.same b hb]⟩
     have F10 : Kept h6 h10 := f7.trans (F7.sub fun b hb => by omega)
     obtain ⟨tag0, lm0⟩ := LM.init (g := g) (el := 60) (q := h1.next) (X := K) (hz := h10) (lo := h6.next) (pb := h8.next) (sb := h7.next) (sc := .lit 1) (c' := c1) (x := x) (av := .slice h9.next 0 1 (.lit 1)) (p1 := h7.next) (by omega) x7
      ((nw.im.fix F7 fun _ h => h).up fun b hb => by omega) nw.bw nw.sw (fun b o n c e => ⟨nw.bi _ _ _ _ e, nw.im.inB _ _ _ _ e⟩) (fun b o n c e => ⟨nw.si _ _ _ _ e, nw.im.inS _ _ _ _ e⟩) (fun b o n c e => by have := im.inX _ _ _ _ (ix7 ▸ e); omega) (fun b o n c e => by have := im.inN _ _ _ _ (in7 ▸ e); omega) (by omega) nw.s1 nw.s2 nw.s3 nw.s4 nw.s5
      ((bf8.fix (K := (· < h8.next)) (fun b o n c e => by injection e with e; omega) f9).fix (K := (· < h9.next)) (fun b o n c e => by injection e with e; omega) f10) (by omega) (by omega) (by omega) (b9.fix f10 (by omega)) bf10 (fun b o n c e => by injection e with e; omega) ⟨ix7 ▸ imK.inX, in7 ▸ imK.inN⟩
     ((repeat refine WC.seq ?_); refine WC.run ?_)
     (try simp only [wk, wl, wx, reduceLT, reduceEqDiff, Nat.reduceBEq, reduceIte])
     (repeat refine WC.seq ?_)
     refine WC.block ?_
     refine WC.while (fun m fr hh => ∃ ts i, ∃ st : LSt, ∃ cs tag av pb sb sc, fr = ⟨ts, 198, [], 78, none⟩ ∧ LM g 60 h1.next K hh h6.next pb sb sc tag cs st av ∧ Fix (· < h6.next) h6 hh ∧ m = 60 - i ∧ i ≤ st.2.length ∧ LInv libs st ∧ loadR x libs N = loadF N libs (60 - i) i st ∧ ts.get 1 = some ls ∧ ts.get 2 = some ns ∧ ts.get 7 = some (.ptr h1.next 0) ∧ ts.get 15 = some (.ptr pb 0) ∧ ts.get 16 = some av ∧ ts.get 17 = some (.int .i64 i)) ?_ ⟨_, 0, ([-1], [x]), [c1], tag0, .slice h9.next 0 1 (.lit 1), h8.next, h7.next, .lit 1, rfl, lm0, F10, rfl, by omega, linv0 smx, rfl, ?_, ?_, ?_, ?_, ?_, ?_⟩
     ·clear t1 t2 t3 t7 t57 t58 t59 hnf hno
      rintro m fr hh ⟨ts, i, st, cs, tag, av, pb, sb, sc, rfl, lm, ff, rfl, hi, inv, hR, t1, t2, t7, t15, t16, t17⟩
      have xh' := ff.next
      have hst := inv.bound
      have hil := inv.len
      have pm := lm.pm
      have lp : loadP (E g) hh 83 (.ptr pb 0) = some (.slice sb 0 st.2.length sc) := pm.has.at ty83 rfl 0
      ((repeat refine WC.seq ?_); refine WC.run ?_)
      (try simp only [wk, wl, wx, reduceLT, reduceEqDiff, Nat.reduceBEq, reduceIte, t16, t17, Sl.lenB lm.nums ty211 rfl, hil])
      (repeat refine WC.seq ?_)
      by_cases hlt : i < st.2.length
      ·refine WC.cond (b := true) (by (try simp only [wk, wl, wx, reduceLT, reduceEqDiff, Nat.reduceBEq, reduceIte]); (try simp); (try omega)) (WC.skip ?_)
       (try simp only [wk, wl, wx, reduceLT, reduceEqDiff, Nat.reduceBEq, reduceIte])
       obtain ⟨ci, hci⟩ := pm.ic hlt
       have hxi : st.2[i]? = some st.2[i] := List.getElem?_eq_getElem hlt
       have hai : st.1[i]? = some (st.1[i]'(by rw [inv.len]; exact hlt)) := List.getElem?_eq_getElem _
       generalize hXx : st.2[i] = X at hxi
       generalize hAa : st.1[i]'(by rw [inv.len]; exact hlt) = A at hai
       have mi := pm.im i ci X hci hxi
       have ac := pm.cell hci hxi
       have ln : loadP (E g) hh 30 (.ptr sb (i * 7 + 6)) = some ci.needs := ac.at ty30 rfl (j := 6) (by simp)
       have smX := inv.good X (List.mem_of_getElem? hxi)
       have hXn : X.needs.length < 2 ^ 40 := by have := (smallI_fits smX).needs; omega
       have hR2 : loadR x libs N = if (needF N libs A X.needs st).2.2 ≠ 0 then needF N libs A X.needs st else loadF N libs (60 - (i + 1)) (i + 1) (needF N libs A X.needs st).1 := by
        rw [hR, show 60 - i = (60 - (i + 1)) + 1 from by omega, loadF, hxi, hai]
       (repeat refine WC.seq ?_)
       refine WC.block ?_
       ((repeat refine WC.seq ?_); refine WC.run ?_)
       (try simp only [wk, wl, wx, reduceLT, reduceEqDiff, Nat.reduceBEq, reduceIte, t15, t17, fa219_0, fa60_6, Nat.zero_add, lp, idx_slice ty83 rfl ty60 hlt, ln, Sl.lenB mi.im.needs ty30 rfl])
       (repeat refine WC.seq ?_)
       refine WC.block ?_
       refine WC.while (fun m fr hq => ∃ ts j, ∃ st' : LSt, ∃ cs tag av sb sc, fr = ⟨ts, 198, [], 78, none⟩ ∧ LM g 60 h1.next K hq h6.next pb sb sc tag cs st' av ∧ Fix (· < h6.next) h6 hq ∧ m = X.needs.length - j ∧ j ≤ X.needs.length ∧ LInv libs st' ∧ i < st'.2.length ∧ st'.1[i]? = some A ∧ needF N libs A X.needs st = needF N libs A (X.needs.drop j) st' ∧ Ss g hq ci.needs X.needs ∧ In (fun b => b < hq.next ∧ tag b = 0) ci.needs ∧ ts.get 1 = some ls ∧ ts.get 2 = some ns ∧ ts.get 7 = some (.ptr h1.next 0) ∧ ts.get 15 = some (.ptr pb 0) ∧ ts.get 16 = some av ∧ ts.get 17 = some (.int .i64 i) ∧ ts.get 105 = some ci.needs ∧ ts.get 106 = some (.int .i64 X.needs.length) ∧ ts.get 107 = some (.int .i64 j)) ?_ ⟨_, 0, st, cs, tag, av, sb, sc, rfl, lm, ff, rfl, by omega, inv, hlt, hai, by simp, mi.im.needs, fun b o n c e => ⟨mi.im.inN _ _ _ _ e, mi.nt _ _ _ _ e⟩, ?_, ?_, ?_, ?_, ?_, ?_, ?_, ?_, ?_⟩
       ·rintro m fr hq ⟨ts, j, st', cs, tag, av, sb, sc, rfl, lm, fq, rfl, hj, inv, hist, hai', hNF, nds, nin, t1, t2, t7, t15, t16, t17, t105, t106, t107⟩
        have xq := fq.next
        have hst := inv.bound
        have hil := inv.len
        have pm := lm.pm
        ((repeat refine WC.seq ?_); refine WC.run ?_)
        (try simp only [wk, wl, wx, reduceLT, reduceEqDiff, Nat.reduceBEq, reduceIte, t106, t107])
        (repeat refine WC.seq ?_)
        by_cases hjt : j < X.needs.length
        ·refine WC.cond (b := true) (by (try simp only [wk, wl, wx, reduceLT, reduceEqDiff, Nat.reduceBEq, reduceIte]); (try simp); (try omega)) (WC.skip ?_)
         (try simp only [wk, wl, wx, reduceLT, reduceEqDiff, Nat.reduceBEq, reduceIte])
         obtain ⟨p, p1, p2⟩ := nds.at ty30 rfl ty9 rfl rfl hjt
         have p2 := p2 hq fun _ _ _ _ _ => rfl
         rw [needF_step hjt] at hNF
         have hNq : Ss g hq ns N := Sl.fix hNh (inN.sub fun b hb => by omega) fq
         have b7c := bh.fix fq (by omega)
         generalize hND : X.needs[j] = nd at hNF p2
         (repeat refine WC.seq ?_)
         refine WC.block ?_
         ((repeat refine WC.seq ?_); refine WC.run ?_)
         (try simp only [wk, wl, wx, reduceLT, reduceEqDiff, Nat.reduceBEq, reduceIte, t105, t107, p1, p2])
         ((repeat refine WC.seq ?_); refine WC.run ?_)
         (try simp only [wk, wl, wx, reduceLT, reduceEqDiff, Nat.reduceBEq, reduceIte])
         ((repeat refine WC.seq ?_); refine WC.run ?_)
         (try simp only [wk, wl, wx, reduceLT, reduceEqDiff, Nat.reduceBEq, reduceIte, t2, Sl.lenB hNq ty30 rfl])
         (repeat refine WC.seq ?_)
         refine WC.block ?_
         refine WC.while (fun m fr hp => ∃ ts l, fr = ⟨ts, 198, [], 78, none⟩ ∧ hp = hq ∧ m = N.length - l ∧ l ≤ N.length ∧ ts.get 1 = some ls ∧ ts.get 2 = some ns ∧ ts.get 7 = some (.ptr h1.next 0) ∧ ts.get 15 = some (.ptr pb 0) ∧ ts.get 16 = some av ∧ ts.get 17 = some (.int .i64 i) ∧ ts.get 19 = some (.str nd) ∧ ts.get 20 = some (.int .i64 (idxI (fun x => nd == x) (N.take l))) ∧ ts.get 105 = some ci.needs ∧ ts.get 106 = some (.int .i64 X.needs.length) ∧ ts.get 107 = some (.int .i64 j) ∧ ts.get 111 = some ns ∧ ts.get 112 = some (.int .i64 N.length) ∧ ts.get 113 = some (.int .i64 l)) ?_ ⟨_, 0, rfl, rfl, rfl, by omega, ?_, ?_, ?_, ?_, ?_, ?_, ?_, ?_, ?_, ?_, ?_, ?_, ?_, ?_⟩
         ·rintro m fr hp ⟨ts, l, rfl, rfl, rfl, hl, t1, t2, t7, t15, t16, t17, t19, t20, t105, t106, t107, t111, t112, t113⟩
          ((repeat refine WC.seq ?_); refine WC.run ?_)
          (try simp only [wk, wl, wx, reduceLT, reduceEqDiff, Nat.reduceBEq, reduceIte, t112, t113])
          (repeat refine WC.seq ?_)
          by_cases hlk : l < N.length
          ·refine WC.cond (b := true) (by (try simp only [wk, wl, wx, reduceLT, reduceEqDiff, Nat.reduceBEq, reduceIte]); (try simp); (try omega)) (WC.skip ?_)
           (try simp only [wk, wl, wx, reduceLT, reduceEqDiff, Nat.reduceBEq, reduceIte])
           obtain ⟨r, r1, r2⟩ := hNq.at ty30 rfl ty9 rfl rfl hlk
           have r2 := r2 hp fun _ _ _ _ _ => rfl
           (repeat refine WC.seq ?_)
           refine WC.block ?_
           ((repeat refine WC.seq ?_); refine WC.run ?_)
           (try simp only [wk, wl, wx, reduceLT, reduceEqDiff, Nat.reduceBEq, reduceIte, t111, t113, r1, r2])
           ((repeat refine WC.seq ?_); refine WC.run ?_)
           (try simp only [wk, wl, wx, reduceLT, reduceEqDiff, Nat.reduceBEq, reduceIte, t19, bin_seql])
           (repeat refine WC.seq ?_)
           cases hb : (N[l] == nd) with
           | true =>
            refine WC.cond (b := true) (by (try simp only [wk, wl, wx, reduceLT, reduceEqDiff, Nat.reduceBEq, reduceIte, hb]); (try simp); (try omega)) ?_
            (try simp only [wk, wl, wx, reduceLT, reduceEqDiff, Nat.reduceBEq, reduceIte])
            ((repeat refine WC.seq ?_); refine WC.run ?_)
            (try simp only [wk, wl, wx, reduceLT, reduceEqDiff, Nat.reduceBEq, reduceIte])
            ((repeat refine WC.seq ?_); refine WC.run ?_)
            (try simp only [wk, wl, wx, reduceLT, reduceEqDiff, Nat.reduceBEq, reduceIte, t113, bin_add])
            have hix : idxI (fun x => nd == x) (N.take (l + 1)) = (l : Int) := idxI_hit hlk (by rw [eq_of_beq hb]; simp) fun a ha hal => by
             rw [← eq_of_beq hb, Bool.eq_false_iff]
             intro e
             have := (List.getElem_inj hnd).1 (eq_of_beq e)
             omega
            refine ⟨_, ?_, _, l + 1, rfl, by trivial, rfl, by omega, ?_⟩
            ·omega
            (try simp only [wk, wl, wx, reduceLT, reduceEqDiff, Nat.reduceBEq, reduceIte, t1, t2, t7, t15, t16, t17, t19, t105, t106, t107, t111, t112])
            refine ⟨trivial, trivial, trivial, trivial, trivial, trivial, trivial, by rw [hix], trivial, trivial, trivial, trivial, trivial, ?_⟩
            rw [wrap64 (by omega) (by omega)]; rfl
           | false =>
            refine WC.cond (b := false) (by (try simp only [wk, wl, wx, reduceLT, reduceEqDiff, Nat.reduceBEq, reduceIte, hb]); (try simp); (try omega)) (WC.skip ?_)
            (try simp only [wk, wl, wx, reduceLT, reduceEqDiff, Nat.reduceBEq, reduceIte])
            ((repeat refine WC.seq ?_); refine WC.run ?_)
            (try simp only [wk, wl, wx, reduceLT, reduceEqDiff, Nat.reduceBEq, reduceIte, t113, bin_add])
            have hix : idxI (fun x => nd == x) (N.take (l + 1)) = idxI (fun x => nd == x) (N.take l) := idxI_miss hlk (by rw [Bool.eq_false_iff]; intro e; rw [eq_of_beq e] at hb; simp at hb)
            refine ⟨_, ?_, _, l + 1, rfl, by trivial, rfl, by omega, ?_⟩
            ·omega
            (try simp only [wk, wl, wx, reduceLT, reduceEqDiff, Nat.reduceBEq, reduceIte, t1, t2, t7, t15, t16, t17, t19, t20, t105, t106, t107, t111, t112])
            refine ⟨trivial, trivial, trivial, trivial, trivial, trivial, trivial, by rw [hix], trivial, trivial, trivial, trivial, trivial, ?_⟩
            rw [wrap64 (by omega) (by omega)]; rfl
          ·refine WC.cond (b := false) (by (try simp only [wk, wl, wx, reduceLT, reduceEqDiff, Nat.reduceBEq, reduceIte]); (try simp); (try omega)) (WC.exit ?_)
           have : l = N.length := by omega
           subst this
           rw [List.take_length] at t20
           (try simp only [wk, wl, wx, reduceLT, reduceEqDiff, Nat.reduceBEq, reduceIte, show Nat.beq 10 10 = true from rfl])
           ((repeat refine WC.seq ?_); refine WC.run ?_)
           (try simp only [wk, wl, wx, reduceLT, reduceEqDiff, Nat.reduceBEq, reduceIte, t20])
           (repeat refine WC.seq ?_)
           cases hf : fstI (fun x => nd == x) N with
           | none =>
            simp only [hf] at hNF
            have hik : idxI (fun x => nd == x) N = -1 := by rw [idxI, hf]
            rw [hik] at t20 ⊢
            refine WC.cond (b := true) (by (try simp only [wk, wl, wx, reduceLT, reduceEqDiff, Nat.reduceBEq, reduceIte]); (try simp); (try omega)) ?_
            (try simp only [wk, wl, wx, reduceLT, reduceEqDiff, Nat.reduceBEq, reduceIte])
            have hA : (st'.1[i]'(by rw [inv.len]; exact hist)) = A := by
             have := List.getElem?_eq_getElem (l := st'.1) (i := i) (by rw [inv.len]; exact hist)
             rw [hai'] at this; injection this with this; exact this.symm
            obtain ⟨pa, pa1, pa2⟩ := lm.nums.at ty211 rfl ty3 rfl rfl (show i < st'.1.length by rw [inv.len]; exact hist)
            have pa2 := pa2 hp fun _ _ _ _ _ => rfl
            rw [hA] at pa2
            ((repeat refine WC.seq ?_); refine WC.draw (plans := pl78_40) (by kernel_rfl) ?_; simp only [pl78_40, List.mem_cons, List.not_mem_nil, or_false, forall_eq_or_imp, forall_eq])
            (try simp (maxSteps := 2000000) only [wk, wl, wx, reduceLT, reduceEqDiff, Nat.reduceBEq, reduceIte, wd, Chk, and_true, true_and, t16, t17, pa1, pa2, i64, build73, t7])
            refine sat_store b7c ty35 rfl (Nat.le_refl 2) rfl ?_
            intro hz az nz fz
            have lz : loadP (E g) hz 35 (.ptr h1.next 0) = some (.agg (faultV (A, 22))) := az.agg ty35 rfl (Nat.le_refl 2)
            (try simp (maxSteps := 2000000) only [wk, wl, wx, reduceLT, reduceEqDiff, Nat.reduceBEq, reduceIte, wd, Chk, and_true, true_and])
            refine WC.ret ?_
            have hPz : ldP x libs N = (none, A, 22) := by rw [hP, hR2, hNF, if_pos (show (22 : Int) ≠ 0 by decide), if_pos (show (22 : Int) ≠ 0 by decide)]
            (try simp only [wk, wl, wx, reduceLT, reduceEqDiff, Nat.reduceBEq, reduceIte, t7, lz])
            exact ⟨⟨by omega, fun b hb => by rw [fz.same b (by omega), fq.same b (by omega), Fh.same b hb]⟩, _, by rw [hPz], by rw [hPz]⟩
           | some k =>
            simp only [hf] at hNF
            obtain ⟨hkN, _⟩ := fstI_some hf
            have hkl : k < libs.length := by omega
            have hkL : k < L.length := by omega
            have hik : idxI (fun x => nd == x) N = (k : Int) := by rw [idxI, hf]
            rw [hik] at t20 ⊢
            refine WC.cond (b := false) (by (try simp only [wk, wl, wx, reduceLT, reduceEqDiff, Nat.reduceBEq, reduceIte]); (try simp); (try omega)) (WC.skip ?_)
            (try simp only [wk, wl, wx, reduceLT, reduceEqDiff, Nat.reduceBEq, reduceIte])
            ((repeat refine WC.seq ?_); refine WC.run ?_)
            (try simp only [wk, wl, wx, reduceLT, reduceEqDiff, Nat.reduceBEq, reduceIte])
            ((repeat refine WC.seq ?_); refine WC.run ?_)
            (try simp only [wk, wl, wx, reduceLT, reduceEqDiff, Nat.reduceBEq, reduceIte, t16, Sl.lenB lm.nums ty211 rfl])
            (repeat refine WC.seq ?_)
            refine WC.block ?_
            refine WC.while (fun m fr hp' => ∃ ts l, fr = ⟨ts, 198, [], 78, none⟩ ∧ hp' = hp ∧ m = st'.1.length - l ∧ l ≤ st'.1.length ∧ ts.get 1 = some ls ∧ ts.get 2 = some ns ∧ ts.get 7 = some (.ptr h1.next 0) ∧ ts.get 15 = some (.ptr pb 0) ∧ ts.get 16 = some av ∧ ts.get 17 = some (.int .i64 i) ∧ ts.get 20 = some (.int .i64 (k : Int)) ∧ ts.get 23 = some (.bool ((st'.1.take l).contains (k : Int))) ∧ ts.get 105 = some ci.needs ∧ ts.get 106 = some (.int .i64 X.needs.length) ∧ ts.get 107 = some (.int .i64 j) ∧ ts.get 130 = some av ∧ ts.get 131 = some (.int .i64 st'.1.length) ∧ ts.get 132 = some (.int .i64 l)) ?_ ⟨_, 0, rfl, rfl, rfl, by omega, ?_, ?_, ?_, ?_, ?_, ?_, ?_, ?_, ?_, ?_, ?_, ?_, ?_, ?_⟩
            ·rintro m fr hp' ⟨ts, l, rfl, rfl, rfl, hl', t1, t2, t7, t15, t16, t17, t20, t23, t105, t106, t107, t130, t131, t132⟩
             ((repeat refine WC.seq ?_); refine WC.run ?_)
             (try simp only [wk, wl, wx, reduceLT, reduceEqDiff, Nat.reduceBEq, reduceIte, t131, t132])
             (repeat refine WC.seq ?_)
             by_cases hlk' : l < st'.1.length
             ·refine WC.cond (b := true) (by (try simp only [wk, wl, wx, reduceLT, reduceEqDiff, Nat.reduceBEq, reduceIte]); (try simp); (try omega)) (WC.skip ?_)
              (try simp only [wk, wl, wx, reduceLT, reduceEqDiff, Nat.reduceBEq, reduceIte])
              obtain ⟨r, r1, r2⟩ := lm.nums.at ty211 rfl ty3 rfl rfl hlk'
              have r2 := r2 hp' fun _ _ _ _ _ => rfl
              (repeat refine WC.seq ?_)
              refine WC.block ?_
              ((repeat refine WC.seq ?_); refine WC.run ?_)
              (try simp only [wk, wl, wx, reduceLT, reduceEqDiff, Nat.reduceBEq, reduceIte, t130, t132, r1, r2, i64])
              ((repeat refine WC.seq ?_); refine WC.run ?_)
              cases hcl : (st'.1.take l).contains (k : Int) with
              | true =>
               rw [hcl] at t23
               (try simp only [wk, wl, wx, reduceLT, reduceEqDiff, Nat.reduceBEq, reduceIte, t23])
               ((repeat refine WC.seq ?_); refine WC.run ?_)
               (try simp only [wk, wl, wx, reduceLT, reduceEqDiff, Nat.reduceBEq, reduceIte, t132, bin_add])
               refine ⟨_, ?_, _, l + 1, rfl, by trivial, rfl, by omega, ?_⟩
               ·omega
               (try simp only [wk, wl, wx, reduceLT, reduceEqDiff, Nat.reduceBEq, reduceIte, t1, t2, t7, t15, t16, t17, t20, t105, t106, t107, t130, t131])
               refine ⟨trivial, trivial, trivial, trivial, trivial, trivial, trivial, by rw [take_contains hlk', hcl, Bool.true_or], trivial, trivial, trivial, trivial, trivial, ?_⟩
               rw [wrap64 (by omega) (by omega)]; rfl
              | false =>
               rw [hcl] at t23
               (try simp only [wk, wl, wx, reduceLT, reduceEqDiff, Nat.reduceBEq, reduceIte, t23, t20])
               ((repeat refine WC.seq ?_); refine WC.run ?_)
               (try simp only [wk, wl, wx, reduceLT, reduceEqDiff, Nat.reduceBEq, reduceIte, t132, bin_add])
               refine ⟨_, ?_, _, l + 1, rfl, by trivial, rfl, by omega, ?_⟩
               ·omega
               (try simp only [wk, wl, wx, reduceLT, reduceEqDiff, Nat.reduceBEq, reduceIte, t1, t2, t7, t15, t16, t17, t20, t105, t106, t107, t130, t131])
               refine ⟨trivial, trivial, trivial, trivial, trivial, trivial, trivial, by rw [take_contains hlk', hcl, Bool.false_or], trivial, trivial, trivial, trivial, trivial, ?_⟩
               rw [wrap64 (by omega) (by omega)]; rfl
             ·refine WC.cond (b := false) (by (try simp only [wk, wl, wx, reduceLT, reduceEqDiff, Nat.reduceBEq, reduceIte]); (try simp); (try omega)) (WC.exit ?_)
              have : l = st'.1.length := by omega
              subst this
              rw [List.take_length] at t23
              (try simp only [wk, wl, wx, reduceLT, reduceEqDiff, Nat.reduceBEq, reduceIte, show Nat.beq 12 12 = true from rfl])
              ((repeat refine WC.seq ?_); refine WC.run ?_)
              (try simp only [wk, wl, wx, reduceLT, reduceEqDiff, Nat.reduceBEq, reduceIte, t23])
              (repeat refine WC.seq ?_)
              cases hct : st'.1.contains (k : Int) with
              | true =>
               rw [if_pos hct] at hNF
               refine WC.cond (b := true) (by (try simp only [wk, wl, wx, reduceLT, reduceEqDiff, Nat.reduceBEq, reduceIte, hct]); (try simp); (try omega)) ?_
               refine WC.exit ?_
               (try simp only [wk, wl, wx, reduceLT, reduceEqDiff, Nat.reduceBEq, reduceIte, show Nat.beq 9 9 = true from rfl])
               ((repeat refine WC.seq ?_); refine WC.run ?_)
               (try simp only [wk, wl, wx, reduceLT, reduceEqDiff, Nat.reduceBEq, reduceIte, t107, bin_add])
               refine ⟨_, ?_, _, j + 1, st', cs, tag, av, sb, sc, rfl, lm, fq, rfl, by omega, inv, hist, hai', hNF, nds, nin, ?_⟩
               ·omega
               (try simp only [wk, wl, wx, reduceLT, reduceEqDiff, Nat.reduceBEq, reduceIte, t1, t2, t7, t15, t16, t17, t105, t106])
               refine ⟨trivial, trivial, trivial, trivial, trivial, trivial, trivial, trivial, ?_⟩
               rw [wrap64 (by omega) (by omega)]; rfl
              | false =>
               rw [if_neg (by rw [hct]; simp)] at hNF
               have hyk : libs[k]? = some libs[k] := List.getElem?_eq_getElem hkl
               have hLk : L[k].2 = libs[k] := by subst hlibs; rw [List.getElem_map]
               generalize hYy : libs[k] = Y at hyk hLk
               simp only [hyk] at hNF
               refine WC.cond (b := false) (by (try simp only [wk, wl, wx, reduceLT, reduceEqDiff, Nat.reduceBEq, reduceIte, hct]); (try simp); (try omega)) (WC.skip ?_)
               (try simp only [wk, wl, wx, reduceLT, reduceEqDiff, Nat.reduceBEq, reduceIte])
               have hLc := (hLh.fix fq fun _ h => h).up (K' := (· < hp'.next)) fun b hb => by omega
               obtain ⟨q, q1, q2⟩ := hLc.sl.at (fun _ => rfl) ty83 rfl ty60 rfl (by decide) rfl hkL
               have q2 := q2 hp' fun _ _ _ _ _ => rfl
               have imk := hLc.im _ (List.getElem_mem hkL)
               have fitk := hfit _ (List.getElem_mem hkL)
               have im0 := hL.im _ (List.getElem_mem hkL)
               have im0K := hLK.im _ (List.getElem_mem hkL)
               have tameY := tame_of (gl Y (List.mem_of_getElem? hyk))
               obtain ⟨y1, y2, y3⟩ := tameY
               rw [hLk] at q2 imk fitk im0 im0K
               generalize hcY : L[k].1 = cY at q2 imk im0 im0K
               ((repeat refine WC.seq ?_); refine WC.run ?_)
               (try simp only [wk, wl, wx, reduceLT, reduceEqDiff, Nat.reduceBEq, reduceIte, t1, t20, q1, q2])
               refine wop_alloc ty60 ?_
               intro hb bb nb fb
               (try simp only [wk, wl, wx, reduceLT, reduceEqDiff, Nat.reduceBEq, reduceIte])
               refine sat_store bb ty60 rfl (Nat.le_refl 7) (Ic.one imk) ?_
               intro hc bc nc fc
               (try simp only [wk, wl, wx, reduceLT, reduceEqDiff, Nat.reduceBEq, reduceIte])
               have bc : Has hc hp'.next [i64 Y.base, cY.bytes, i64 Y.code, i64 Y.entry, cY.exps, cY.slots, cY.needs] := bc
               have Fc : Kept hp' hc := ⟨by omega, fun b hb => by rw [fc.same b (by omega), fb.same b hb]⟩
               have lmc := lm.kept Fc
               have pmc := lmc.pm
               have imkc := (imk.fix Fc fun _ h => h).up (K' := (· < hc.next)) fun b hb => by omega
               have lpc : loadP (E g) hc 83 (.ptr pb 0) = some (.slice sb 0 st'.2.length sc) := pmc.has.at ty83 rfl 0
               have F6c : Fix (· < h6.next) h6 hc := fq.trans (Fc.sub fun b hb => by omega)
               ((repeat refine WC.seq ?_); refine WC.run ?_)
               (try simp only [wk, wl, wx, reduceLT, reduceEqDiff, Nat.reduceBEq, reduceIte, t15, fa219_0, Nat.zero_add, lpc, Sl.lenB pmc.sl ty83 rfl])
               (repeat refine WC.seq ?_)
               refine WC.block ?_
               refine WC.while (fun m fr he => ∃ ts l, fr = ⟨ts, 198, [], 78, none⟩ ∧ Kept hc he ∧ m = st'.2.length - l ∧ l ≤ st'.2.length ∧ ts.get 1 = some ls ∧ ts.get 2 = some ns ∧ ts.get 7 = some (.ptr h1.next 0) ∧ ts.get 15 = some (.ptr pb 0) ∧ ts.get 16 = some av ∧ ts.get 17 = some (.int .i64 i) ∧ ts.get 20 = some (.int .i64 (k : Int)) ∧ ts.get 26 = some (.ptr hp'.next 0) ∧ ts.get 105 = some ci.needs ∧ ts.get 106 = some (.int .i64 X.needs.length) ∧ ts.get 107 = some (.int .i64 j) ∧ ts.get 151 = some (.slice sb 0 st'.2.length sc) ∧ ts.get 152 = some (.int .i64 st'.2.length) ∧ ts.get 153 = some (.int .i64 l) ∧ (st'.2.take l).any (fun x => ovl x Y) = false) ?_ ⟨_, 0, rfl, Fix.refl _ _, rfl, by omega, ?_, ?_, ?_, ?_, ?_, ?_, ?_, ?_, ?_, ?_, ?_, ?_, ?_, ?_, by simp⟩
               ·rintro m fr he ⟨ts, l, rfl, fe, rfl, hl2, t1, t2, t7, t15, t16, t17, t20, t26, t105, t106, t107, t151, t152, t153, hno3⟩
                have xe := fe.next
                have lme := lmc.kept fe
                have pme := lme.pm
                have ae := bc.fix fe (by omega)
                have F6e : Fix (· < h6.next) h6 he := F6c.trans (fe.sub fun b hb => by omega)
                have imke := (imkc.fix fe fun _ h => h).up (K' := (· < he.next)) fun b hb => by omega
                ((repeat refine WC.seq ?_); refine WC.run ?_)
                (try simp only [wk, wl, wx, reduceLT, reduceEqDiff, Nat.reduceBEq, reduceIte, t152, t153])
                (repeat refine WC.seq ?_)
                by_cases hlk2 : l < st'.2.length
                ·refine WC.cond (b := true) (by (try simp only [wk, wl, wx, reduceLT, reduceEqDiff, Nat.reduceBEq, reduceIte]); (try simp); (try omega)) (WC.skip ?_)
                 (try simp only [wk, wl, wx, reduceLT, reduceEqDiff, Nat.reduceBEq, reduceIte])
                 obtain ⟨cl, hcl⟩ := pme.ic hlk2
                 have hxl : st'.2[l]? = some st'.2[l] := List.getElem?_eq_getElem hlk2
                 generalize hZz : st'.2[l] = Z at hxl
                 have ml := pme.im l cl Z hcl hxl
                 have acl := pme.cell hcl hxl
                 have lx : loadP (E g) he 60 (.ptr sb (l * 7)) = some (.agg (cl.cells Z)) := acl.agg ty60 rfl rfl
                 obtain ⟨z1, z2, z3⟩ := tame_of (inv.good Z (List.mem_of_getElem? hxl))
                 (repeat refine WC.seq ?_)
                 refine WC.block ?_
                 ((repeat refine WC.seq ?_); refine WC.run ?_)
                 (try simp only [wk, wl, wx, reduceLT, reduceEqDiff, Nat.reduceBEq, reduceIte, t151, t153, idx_slice ty83 rfl ty60 hlk2, Nat.zero_add, lx])
                 refine wop_alloc ty60 ?_
                 intro hf1 bf1 nf1 ff1
                 (try simp only [wk, wl, wx, reduceLT, reduceEqDiff, Nat.reduceBEq, reduceIte])
                 refine sat_store bf1 ty60 rfl (Nat.le_refl 7) (Ic.one ml.im) ?_
                 intro hg bg ng fg
                 have bg : Has hg he.next [i64 Z.base, cl.bytes, i64 Z.code, i64 Z.entry, cl.exps, cl.slots, cl.needs] := bg
                 have Fg : Kept he hg := ⟨by omega, fun b hb => by rw [fg.same b (by omega), ff1.same b hb]⟩
                 (try simp only [wk, wl, wx, reduceLT, reduceEqDiff, Nat.reduceBEq, reduceIte])
                 have mg := ml.fix Fg
                 have ag := ae.fix Fg (by omega)
                 have ig := (imke.fix Fg fun _ h => h).up (K' := (· < hg.next)) fun b hb => by omega
                 have e1 : lenB (E g) hg 27 cl.bytes = some (.int .i64 Z.bytes.length) := Bs.len mg.im.bytes
                 have e2 : lenB (E g) hg 27 cY.bytes = some (.int .i64 Y.bytes.length) := Bs.len ig.bytes
                 have w1 : IntKind.i64.wrap (Z.base + Z.bytes.length) = Z.base + Z.bytes.length := wrap64 (by omega) (by omega)
                 have w2 : IntKind.i64.wrap (Y.base + Y.bytes.length) = Y.base + Y.bytes.length := wrap64 (by omega) (by omega)
                 have hovz : ovl Z Y = (decide (Y.base < Z.base + Z.bytes.length) && decide (Z.base < Y.base + Y.bytes.length)) := by rw [ovl, Bool.and_comm]
                 have hfz : ∀ {b : Bool}, ovl Z Y = b → (st'.2.take (l + 1)).any (fun x => ovl x Y) = b := fun {b} e => by rw [take_any hlk2, hno3, hZz, e, Bool.false_or]
                 ((repeat refine WC.seq ?_); refine WC.run ?_)
                 by_cases qa : Y.base < Z.base + Z.bytes.length
                 ·by_cases qb : Z.base < Y.base + Y.bytes.length
                  ·have hov : ovl Z Y = true := by rw [hovz, decide_eq_true qa, decide_eq_true qb]; rfl
                   (try simp only [wk, wl, wx, reduceLT, reduceEqDiff, Nat.reduceBEq, reduceIte, t26, fa60_0, fa60_1, Nat.zero_add, bg.at ty2 rfl, bg.at ty27 rfl, ag.at ty2 rfl, ag.at ty27 rfl, e1, e2, i64, bin_add, w1, w2, un, decide_eq_true qa, decide_eq_true qb])
                   (repeat refine WC.seq ?_)
                   refine WC.cond (b := true) (by (try simp only [wk, wl, wx, reduceLT, reduceEqDiff, Nat.reduceBEq, reduceIte]); (try simp); (try omega)) ?_
                   (try simp only [wk, wl, wx, reduceLT, reduceEqDiff, Nat.reduceBEq, reduceIte])
                   ((repeat refine WC.seq ?_); refine WC.run ?_)
                   (try simp only [wk, wl, wx, reduceLT, reduceEqDiff, Nat.reduceBEq, reduceIte, t20, build73])
                   (try simp only [wk, wl, wx, reduceLT, reduceEqDiff, Nat.reduceBEq, reduceIte, t7])
                   refine sat_store ((b7c.fix Fc (by omega)).fix (fe.trans (Fg.sub fun b hb => by omega)) (by omega)) ty35 rfl (Nat.le_refl 2) rfl ?_
                   intro hz az nz fz
                   have lz : loadP (E g) hz 35 (.ptr h1.next 0) = some (.agg (faultV ((k : Int), 10))) := az.agg ty35 rfl (Nat.le_refl 2)
                   (try simp only [wk, wl, wx, reduceLT, reduceEqDiff, Nat.reduceBEq, reduceIte])
                   refine WC.ret ?_
                   have hany : st'.2.any (fun x => ovl x Y) = true := List.any_eq_true.2 ⟨Z, List.mem_of_getElem? hxl, hov⟩
                   have hPz : ldP x libs N = (none, (k : Int), 10) := by rw [hP, hR2, hNF, if_pos hany, if_pos (show (10 : Int) ≠ 0 by decide), if_pos (show (10 : Int) ≠ 0 by decide)]
                   (try simp only [wk, wl, wx, reduceLT, reduceEqDiff, Nat.reduceBEq, reduceIte, t7, lz])
                   exact ⟨⟨by omega, fun b hb => by rw [fz.same b (by omega), Fg.same b (by omega), F6e.same b (by omega), Fh.same b hb]⟩, _, by rw [hPz], by rw [hPz]⟩
                  ·have hov : ovl Z Y = false := by rw [hovz, decide_eq_true qa, decide_eq_false qb]; rfl
                   (try simp only [wk, wl, wx, reduceLT, reduceEqDiff, Nat.reduceBEq, reduceIte, t26, fa60_0, fa60_1, Nat.zero_add, bg.at ty2 rfl, bg.at ty27 rfl, ag.at ty2 rfl, ag.at ty27 rfl, e1, e2, i64, bin_add, w1, w2, un, decide_eq_true qa, decide_eq_false qb])
                   (repeat refine WC.seq ?_)
                   refine WC.cond (b := false) (by (try simp only [wk, wl, wx, reduceLT, reduceEqDiff, Nat.reduceBEq, reduceIte]); (try simp); (try omega)) (WC.skip ?_)
                   (try simp only [wk, wl, wx, reduceLT, reduceEqDiff, Nat.reduceBEq, reduceIte])
                   ((repeat refine WC.seq ?_); refine WC.run ?_)
                   (try simp only [wk, wl, wx, reduceLT, reduceEqDiff, Nat.reduceBEq, reduceIte, t153, bin_add])
                   refine ⟨_, ?_, _, l + 1, rfl, fe.trans (Fg.sub fun b hb => by omega), rfl, by omega, ?_⟩
                   ·omega
                   (try simp only [wk, wl, wx, reduceLT, reduceEqDiff, Nat.reduceBEq, reduceIte, t1, t2, t7, t15, t16, t17, t20, t26, t105, t106, t107, t151, t152])
                   refine ⟨trivial, trivial, trivial, trivial, trivial, trivial, trivial, trivial, trivial, trivial, trivial, trivial, trivial, ?_, hfz hov⟩
                   rw [wrap64 (by omega) (by omega)]; rfl
                 ·have hov : ovl Z Y = false := by rw [hovz, decide_eq_false qa]; rfl
                  (try simp only [wk, wl, wx, reduceLT, reduceEqDiff, Nat.reduceBEq, reduceIte, t26, fa60_0, fa60_1, Nat.zero_add, bg.at ty2 rfl, bg.at ty27 rfl, ag.at ty2 rfl, ag.at ty27 rfl, e1, e2, i64, bin_add, w1, w2, un, decide_eq_false qa])
                  (repeat refine WC.seq ?_)
                  refine WC.cond (b := false) (by (try simp only [wk, wl, wx, reduceLT, reduceEqDiff, Nat.reduceBEq, reduceIte]); (try simp); (try omega)) (WC.skip ?_)
                  (try simp only [wk, wl, wx, reduceLT, reduceEqDiff, Nat.reduceBEq, reduceIte])
                  ((repeat refine WC.seq ?_); refine WC.run ?_)
                  (try simp only [wk, wl, wx, reduceLT, reduceEqDiff, Nat.reduceBEq, reduceIte, t153, bin_add])
                  refine ⟨_, ?_, _, l + 1, rfl, fe.trans (Fg.sub fun b hb => by omega), rfl, by omega, ?_⟩
                  ·omega
                  (try simp only [wk, wl, wx, reduceLT, reduceEqDiff, Nat.reduceBEq, reduceIte, t1, t2, t7, t15, t16, t17, t20, t26, t105, t106, t107, t151, t152])
                  refine ⟨trivial, trivial, trivial, trivial, trivial, trivial, trivial, trivial, trivial, trivial, trivial, trivial, trivial, ?_, hfz hov⟩
                  rw [wrap64 (by omega) (by omega)]; rfl
                ·refine WC.cond (b := false) (by (try simp only [wk, wl, wx, reduceLT, reduceEqDiff, Nat.reduceBEq, reduceIte]); (try simp); (try omega)) (WC.exit ?_)
                 have : l = st'.2.length := by omega
                 subst this
                 rw [List.take_length] at hno3
                 rw [if_neg (by rw [hno3]; simp)] at hNF
                 (try simp only [wk, wl, wx, reduceLT, reduceEqDiff, Nat.reduceBEq, reduceIte, show Nat.beq 14 14 = true from rfl])
                 have hP1' := pme.pbt
                 have hP2' := pme.sbt
                 have hP12 : pb ≠ sb := fun e => by rw [e] at hP1'; exact absurd (hP1'.2.2.symm.trans hP2'.2.2) (by decide)
                 have hsb : sb < hp'.next := lm.pm.sbt.2.1
                 have hlim : (st'.2.length + 1) * 120 ≤ 140737488355328 := by omega
                 have hlim1 : (st'.1.length + 1) * 8 ≤ 140737488355328 := by rw [inv.len]; omega
                 have reads : ∀ hh, Fix (fun b => b < he.next ∧ b ≠ sb) he hh → loadP (E g) hh 83 (.ptr pb 0) = some (.slice sb 0 st'.2.length sc) ∧ loadP (E g) hh 60 (.ptr hp'.next 0) = some (.agg (cY.cells Y)) := fun hh f =>
                  ⟨(pme.has.fix f ⟨by omega, hP12⟩).at ty83 rfl 0, (ae.fix f ⟨by omega, by omega⟩).agg ty60 rfl (Nat.le_refl 7)⟩
                 have rd := reads he (Fix.refl _ _)
                 ((repeat refine WC.seq ?_); refine WC.draw (plans := pl78_55) (by kernel_rfl) ?_; simp only [pl78_55, List.mem_cons, List.not_mem_nil, or_false, forall_eq_or_imp, forall_eq])
                 (try simp (maxSteps := 2000000) only [wk, wl, wx, reduceLT, reduceEqDiff, Nat.reduceBEq, reduceIte, wd, Chk, and_true, true_and, t15, t26, fa219_0, Nat.zero_add, rd])
                 refine (own_ok imke fitk).mono fun v hc1 ⟨⟨c2, ec, nw, ix, iN⟩, fcp⟩ => ?_
                 subst ec
                 have xc := fcp.next
                 have FF : Fix (fun b => b < he.next ∧ b ≠ sb) he hc1 := fcp.sub fun b hb => hb.1
                 have rd := reads _ FF
                 (try simp (maxSteps := 2000000) only [wk, wl, wx, reduceLT, reduceEqDiff, Nat.reduceBEq, reduceIte, wd, Chk, and_true, true_and, t15, t26, fa219_0, Nat.zero_add, rd])
                 refine sat_buildSlice (cs := c2.cells Y) ty83 rfl ty60 rfl (by decide) (by decide) (fill7 rfl) rfl ?_
                 intro hl bl nl fl
                 have FF : Fix (fun b => b < he.next ∧ b ≠ sb) he hl := FF.trans (fl.sub fun b hb => by omega)
                 have rd := reads _ FF
                 (try simp (maxSteps := 2000000) only [wk, wl, wx, reduceLT, reduceEqDiff, Nat.reduceBEq, reduceIte, wd, Chk, and_true, true_and, t15, t26, fa219_0, Nat.zero_add, rd])
                 have FcA : Fix (· < he.next) he hl := fcp.trans (fl.sub fun b hb => by omega)
                 refine sat_append (m := 1) (ws := c2.cells Y) (lme.buf.fix (K := (· < he.next)) (fun b o n c e => by injection e with e; omega) FcA) ty83 rfl ty83 (.inl ⟨_, rfl⟩) ty60 rfl (by decide) (by decide) (Sl.len bl.sl) (Sl.cells bl.sl) rfl (Ic.one nw.im) hlim (fun b o n c e => by injection e with e; omega) ?_
                 intro s' hap ba ia oa fa
                 have xa := fa.next
                 obtain ⟨sb', sc', rfl, hsc'⟩ := not_one_nil ba.whole ba.sl (by omega)
                 have FF : Fix (fun b => b < he.next ∧ b ≠ sb) he hap := FF.trans (fa.sub fun b hb => ⟨by omega, fun o n c e => by injection e with e; exact hb.2 e.symm⟩)
                 have oa' : sb' = sb ∨ (hc1.next ≤ sb' ∧ sb' < hap.next) := by
                  have q := ia _ _ _ _ rfl
                  rcases oa _ _ _ _ rfl with r | ⟨o, n, c, r⟩
                  ·right; omega
                  ·injection r with r; exact .inl r.symm
                 have fa' : Fix (fun b => b < hc1.next ∧ b ≠ sb) hc1 hap := (fl.sub fun b hb => hb.1).trans (fa.sub fun b hb => ⟨by omega, fun o n c e => by injection e with e; exact hb.2 e.symm⟩)
                 (try simp (maxSteps := 2000000) only [wk, wl, wx, reduceLT, reduceEqDiff, Nat.reduceBEq, reduceIte, wd, Chk, and_true, true_and, t15, fa219_0, Nat.zero_add])
                 refine sat_store (pme.has.fix FF ⟨by omega, hP12⟩) ty83 rfl (Nat.le_refl 1) rfl ?_
                 intro hs asv ns' fs
                 have asv : Has hs pb [.slice sb' 0 (st'.2.length + 1) sc'] := asv
                 (try simp (maxSteps := 2000000) only [wk, wl, wx, reduceLT, reduceEqDiff, Nat.reduceBEq, reduceIte, wd, Chk, and_true, true_and])
                 have avB := (lme.abuf.fix (K := fun b => b < he.next ∧ b ≠ sb) (fun b o n c e => by have := lme.ain _ _ _ _ e; exact ⟨by omega, fun e' => by rw [e'] at this; exact absurd (this.2.2.symm.trans hP2'.2.2) (by decide)⟩) FF).fix (K := (· ≠ pb)) (fun b o n c e e' => by have := lme.ain _ _ _ _ e; rw [e'] at this; exact absurd (hP1'.2.2.symm.trans this.2.2) (by decide)) fs
                 ((repeat refine WC.seq ?_); refine WC.run ?_)
                 (try simp only [wk, wl, wx, reduceLT, reduceEqDiff, Nat.reduceBEq, reduceIte, t16, t20])
                 refine sat_slice1 (v := i64 (k : Int)) ty211 rfl ty3 rfl rfl rfl ?_
                 intro h14 b14 n14 f14
                 (try simp only [wk, wl, wx, reduceLT, reduceEqDiff, Nat.reduceBEq, reduceIte])
                 refine sat_append (m := 1) (ws := [i64 (k : Int)]) (avB.fix (K := (· < hs.next)) (fun b o n c e => by have := lme.ain _ _ _ _ e; omega) f14) ty211 rfl ty211 (.inl ⟨_, rfl⟩) ty3 rfl (by decide) (by decide) (Sl.len b14.sl) (Sl.cells b14.sl) rfl rfl hlim1 (fun b o n c e => by have := lme.ain _ _ _ _ e; omega) ?_
                 intro av' hz bv iv ov fv
                 have xv := fv.next
                 (try simp only [wk, wl, wx, reduceLT, reduceEqDiff, Nat.reduceBEq, reduceIte])
                 have ov' : In (fun b => blkOf av = some b ∨ (hs.next ≤ b ∧ b < hz.next)) av' := fun b o n c e => by
                  have q := iv _ _ _ _ e
                  rcases ov _ _ _ _ e with r | ⟨o, n, c, r⟩
                  ·right; omega
                  ·left; rw [r]; rfl
                 have fv' : Fix (fun b => b < hs.next ∧ blkOf av ≠ some b) hs hz := (f14.sub fun b hb => hb.1).trans (fv.sub fun b hb => ⟨by omega, fun o n c e => hb.2 (by rw [e]; rfl)⟩)
                 obtain ⟨tag', lmz, tz, Fz⟩ := lme.fin2 (hx := he) (by omega) (hy := hc1) (h1 := hap) (h2 := hs) (hz := hz) (k := (k : Int)) (by omega) nw (ix ▸ im0.inX.sub fun b hb => .inl (by omega)) (iN ▸ im0.inN.sub fun b hb => .inl (by omega)) fcp (by omega) fa' fs (by omega) fv' ba oa' bv ov' asv ⟨ix ▸ im0K.inX, iN ▸ im0K.inN⟩
                 have xz := Fz.next
                 have F6z : Fix (· < h6.next) h6 hz := F6e.trans (Fz.sub fun b hb => ⟨by omega, lm.zz hb⟩)
                 ((repeat refine WC.seq ?_); refine WC.run ?_)
                 (try simp only [wk, wl, wx, reduceLT, reduceEqDiff, Nat.reduceBEq, reduceIte, t107, bin_add])
                 refine ⟨_, ?_, _, j + 1, _, _, tag', av', sb', sc', rfl, lmz, F6z, rfl, by omega, inv.snoc gl hyk hct, by simp; omega, by rw [List.getElem?_append_left (by rw [inv.len]; exact hist)]; exact hai', hNF, Sl.fix (Sl.fix (Sl.fix nds (nin.sub fun b hb => hb.1) Fc) (nin.sub fun b hb => by omega) fe) (K := fun b => b < he.next ∧ (tag b = 0 ∨ tag b = TT + 1)) (nin.sub fun b hb => ⟨by omega, .inl hb.2⟩) Fz, nin.sub fun b hb => ⟨by omega, by rw [tz b (by omega)]; exact hb.2⟩, ?_⟩
                 ·omega
                 (try simp only [wk, wl, wx, reduceLT, reduceEqDiff, Nat.reduceBEq, reduceIte, t1, t2, t7, t15, t17, t105, t106])
                 refine ⟨trivial, trivial, trivial, trivial, trivial, trivial, trivial, trivial, ?_⟩
                 rw [wrap64 (by omega) (by omega)]; rfl
               all_goals (try simp only [wk, wl, wx, reduceLT, reduceEqDiff, Nat.reduceBEq, reduceIte, t1, t2, t7, t15, t16, t17, t20, t105, t106, t107])
               all_goals (first | done | rfl | trivial | simp)
            all_goals (try simp only [wk, wl, wx, reduceLT, reduceEqDiff, Nat.reduceBEq, reduceIte, t1, t2, t7, t15, t16, t17, t20, t105, t106, t107])
            all_goals (first | done | rfl | trivial | simp)
         all_goals (try simp only [wk, wl, wx, reduceLT, reduceEqDiff, Nat.reduceBEq, reduceIte, t1, t2, t7, t15, t16, t17, t105, t106, t107])
         all_goals (first | done | rfl | trivial | simp)
        ·refine WC.cond (b := false) (by (try simp only [wk, wl, wx, reduceLT, reduceEqDiff, Nat.reduceBEq, reduceIte]); (try simp); (try omega)) (WC.exit ?_)
         have : j = X.needs.length := by omega
         subst this
         (try simp only [wk, wl, wx, reduceLT, reduceEqDiff, Nat.reduceBEq, reduceIte, show Nat.beq 8 8 = true from rfl])
         have hdone : needF N libs A X.needs st = (st', 0, 0) := by rw [hNF, List.drop_length, needF]
         rw [hdone, if_neg (by simp)] at hR2
         ((repeat refine WC.seq ?_); refine WC.run ?_)
         (try simp only [wk, wl, wx, reduceLT, reduceEqDiff, Nat.reduceBEq, reduceIte, t17, bin_add])
         refine ⟨_, ?_, _, i + 1, st', cs, tag, av, pb, sb, sc, rfl, lm, fq, rfl, by omega, inv, hR2, ?_⟩
         ·omega
         (try simp only [wk, wl, wx, reduceLT, reduceEqDiff, Nat.reduceBEq, reduceIte, t1, t2, t7, t15, t16])
         refine ⟨trivial, trivial, trivial, trivial, trivial, ?_⟩
         rw [wrap64 (by omega) (by omega)]; rfl
       all_goals (try simp only [wk, wl, wx, reduceLT, reduceEqDiff, Nat.reduceBEq, reduceIte, t1, t2, t7, t15, t16, t17])
       all_goals (first | done | rfl | trivial | simp)
      ·refine WC.cond (b := false) (by (try simp only [wk, wl, wx, reduceLT, reduceEqDiff, Nat.reduceBEq, reduceIte]); (try simp); (try omega)) (WC.exit ?_)
       (try simp only [wk, wl, wx, reduceLT, reduceEqDiff, Nat.reduceBEq, reduceIte])
       have hdone : loadR x libs N = (st, 0, 0) := by rw [hR, show 60 - i = (60 - (i + 1)) + 1 from by omega, loadF, List.getElem?_eq_none (by omega : st.2.length ≤ i)]
       have hPz : ldP x libs N = (some st.2, 0, 0) := by rw [hP, hdone, if_neg (by simp)]
       ((repeat refine WC.seq ?_); refine WC.run ?_)
       (try simp only [wk, wl, wx, reduceLT, reduceEqDiff, Nat.reduceBEq, reduceIte, t15, t7, build73_0])
       refine sat_store (bh.fix ff (by omega)) ty35 rfl (Nat.le_refl 2) rfl ?_
       intro hz az nz fz
       have lz : loadP (E g) hz 35 (.ptr h1.next 0) = some (.agg (faultV (0, 0))) := az.agg ty35 rfl (Nat.le_refl 2)
       (try simp only [wk, wl, wx, reduceLT, reduceEqDiff, Nat.reduceBEq, reduceIte, t7])
       refine WC.ret ?_
       (try simp only [wk, wl, wx, reduceLT, reduceEqDiff, Nat.reduceBEq, reduceIte, t7, lz])
       refine ⟨⟨by omega, fun b hb => by rw [fz.same b (by omega), ff.same b (by omega), Fh.same b hb]⟩, .ptr pb 0, by rw [hPz], ?_⟩
       rw [hPz]
       exact ⟨pb, sb, sc, tag, cs, rfl, (lm.fault (by omega) fz).low (by omega), lm.xx⟩
     all_goals (try simp only [wk, wl, wx, reduceLT, reduceEqDiff, Nat.reduceBEq, reduceIte, t1, t2, t7])
     all_goals (first | done | rfl | trivial | simp)
   all_goals (try simp only [wk, wl, wx, reduceLT, reduceEqDiff, Nat.reduceBEq, reduceIte, t1, t2, t3, t7])
   all_goals (first | done | rfl | trivial | simp)
 all_goals (try simp only [wk, wl, wx, reduceLT, reduceEqDiff, Nat.reduceBEq, reduceIte])
 all_goals (first | done | rfl | trivial | simp)
end Go.Proofs.OP
