/- Walks: object.Link. Printed by genL9.py. -/
import Derived.Test.YtloblhhnlaaajaaDoorX15
import Derived.Test.YtloblhhnlaaajaaDoorX40
set_option linter.unusedVariables false
set_option linter.unusedSimpArgs false
set_option linter.defProp false
set_option linter.unusedSimpArgs false
namespace Go.Proofs.OP
open Go Go.Ev
open Go.Proofs
open Nat (reduceLT reduceEqDiff)
variable {g : T (List V)}

abbrev zImg : List V := [i64 0, .nils, i64 0, i64 0, .nils, .nils, .nils]
theorem bld32_0 : buildV (E g) 32 [] = some (.agg zImg) := by
 simp only [buildV, ty32, fillAll, List.all_cons, List.all_nil, ty2, ty27, ty28, ty29, ty30, Option.isSome_some, Bool.and_true, Bool.not_true, cond_false]
 rfl
theorem bld105 {ls : V} {base : Int} {db sb : Nat} (h1 : ls.cells = [ls]) : buildV (E g) 105 [(0, ls), (1, .int .i64 base), (3, .map db), (4, .map sb)] = some (.agg (lkV ls base .nils db sb (im0 0))) := by
 simp only [buildV, ty105, fillAll, nth, sizeOf_of ty38, sizeOf_of ty2, sizeOf_of ty101, sizeOf_of ty102, h1, List.all_cons, List.all_nil, ty38, ty2, ty103, ty101, ty102, ty32, Option.isSome_some, Bool.and_true, Bool.not_true, cond_false]
 rfl
theorem defS_err {i : Nat} {f : Int × Int} : ∀ {ys : List SymD} {D : Dm}, defS i ys D = .error f → f.2 = 38
 | [], D, h => by cases h
 | s :: r, D, h => by
  simp only [defS] at h
  split at h
  ·exact defS_err h
  ·split at h
   ·exact defS_err h
   ·split at h
    ·exact defS_err h
    ·split at h
     ·exact defS_err h
     ·injection h with h; rw [← h]
theorem defL_err {f : Int × Int} : ∀ {r : List ObjD} {i : Nat} {D : Dm}, defL i r D = .error f → f.2 = 38
 | [], i, D, h => by cases h
 | o :: r, i, D, h => by
  simp only [defL] at h
  split at h
  ·rename_i q; injection h with h; subst h; exact defS_err q
  ·exact defL_err h
theorem resR_err {i : Nat} {own : Sm} {D : Dm} {f : Int × Int} : ∀ {ys : List RelD} {S : St}, resR i own D ys S = .error f → f.2 = 22
 | [], S, h => by cases h
 | r :: rest, S, h => by
  simp only [resR] at h
  split at h
  ·exact resR_err h
  ·split at h
   ·injection h with h; rw [← h]
   ·exact resR_err h
theorem resL_err {D : Dm} {f : Int × Int} : ∀ {r : List ObjD} {i : Nat} {S : St}, resL D i r S = .error f → f.2 = 22
 | [], i, S, h => by cases h
 | o :: r, i, S, h => by
  simp only [resL] at h
  split at h
  ·rename_i q; injection h with h; subst h; exact resR_err q
  ·exact resL_err h
theorem entP_err {base code : Int} {D : Dm} {f : Int × Int} : ∀ {r : List ObjD} {i : Nat}, entP base code D i r = .error f → f.2 = 14
 | [], i, h => by cases h
 | o :: r, i, h => by
  simp only [entP] at h
  split at h
  ·exact entP_err h
  ·split at h
   ·injection h with h; rw [← h]
   ·cases h
theorem layB_length {os : List ObjD} {N : Nat} (hN : tabA os ≤ N) : ∀ {r : List ObjD} {i : Nat} {bs : List UInt8}, os.drop i = r → bs.length = N → (layB os i r bs).length = N
 | [], i, bs, _, h => h
 | o :: r, i, bs, hi, h => by
  have hlt : i < os.length := by
   rcases Nat.lt_or_ge i os.length with q | q
   ·exact q
   ·rw [List.drop_eq_nil_of_le q] at hi; cases hi
  have ho : os[i] = o := by
   have : (os.drop i)[0]? = some o := by rw [hi]; rfl
   rw [List.getElem?_drop] at this
   simpa [List.getElem?_eq_getElem hlt] using this
  have hi' : os.drop (i + 1) = r := by rw [← List.drop_drop, hi]; rfl
  have q1 := stO1_end hlt
  have q2 := stO2_end hlt
  rw [ho] at q1 q2
  simp only [layB]
  have h1 : (putAt bs (stO os 1 i) o.code).length = N := by rw [putAt_length (by omega), h]
  exact layB_length hN hi' (by rw [putAt_length (by omega), h1])

theorem rlcB_length {base : Int} {os : List ObjD} {own : Sm} {D : Dm} {S : St} {i N : Nat} {o : ObjD} (hi : os[i]? = some o) (hN : tabA os ≤ N) : ∀ {r : List RelD} {bs : List UInt8}, (∀ x ∈ r, RelOk o x) → bs.length = N → (rlcB base os own D S i r bs).length = N
 | [], bs, _, h => h
 | x :: r, bs, hr, h => by
  obtain ⟨r1, r2, r3, r4, r5, r6, r7, r8, _⟩ := hr x (List.mem_cons_self ..)
  have hlt : i < os.length := (List.getElem?_eq_some_iff.1 hi).1
  have ho : os[i] = o := (List.getElem?_eq_some_iff.1 hi).2
  have q1 := stO1_end hlt
  have q2 := stO2_end hlt
  rw [ho] at q1 q2
  have hb : stO os x.sec.toNat i + x.off.toNat + 4 ≤ N := by
   have : x.sec = 1 ∨ x.sec = 2 := by omega
   rcases this with e | e
   ·rw [e] at r4 ⊢
    simp only [secLen] at r4
    show stO os 1 i + x.off.toNat + 4 ≤ _
    simp at r4
    omega
   ·rw [e] at r4 ⊢
    simp only [secLen] at r4
    show stO os 2 i + x.off.toNat + 4 ≤ _
    simp at r4
    omega
  simp only [rlcB]
  exact rlcB_length hi hN (fun y hy => hr y (List.mem_cons_of_mem _ hy)) (by rw [putAt_length (by rw [leB_length]; omega), h])
theorem rlcL_length {base : Int} {os : List ObjD} {D : Dm} {S : St} {N : Nat} : ∀ {r : List ObjD} {i : Nat} {bs : List UInt8}, os.drop i = r → (∀ o ∈ os, ObjGd o) → tabA os ≤ N → bs.length = N → (rlcL base os D S i r bs).length = N
 | [], i, bs, _, _, _, h => h
 | o :: r, i, bs, hi, hok, hN, h => by
  have ho : os[i]? = some o := by
   have : (os.drop i)[0]? = some o := by rw [hi]; rfl
   simpa using this
  have hi' : os.drop (i + 1) = r := by rw [← List.drop_drop, hi]; rfl
  simp only [rlcL]
  exact rlcL_length hi' hok hN (rlcB_length ho hN (hok o (List.mem_of_getElem? ho)).rels h)

set_option maxRecDepth 100000 in
set_option maxHeartbeats 64000000 in
theorem link_ok {h : H} {ls : V} {A : List (Oc × ObjD)} {base : Int} (a : Obs g h (· < h.next) ls A) (w : Whole ls A.length) (hg : g.get 0 = some flagsV) (fA : ∀ p ∈ A, Fits p.2) (lA : A.length < 2 ^ 30) :
  WF (E g) 10 [ls, .int .i64 base] h fun v h' => Kept h h' ∧ match linkP (A.map (·.2)) base with
   | .error f => v = .tuple [.agg zImg, .agg (faultV f)]
   | .ok x => ∃ c, v = .tuple [.agg (c.cells x), .agg (faultV (0, 0))] ∧ Im g h' (fun b => h.next ≤ b ∧ b < h'.next) c x := by
 have hlo : (A.map (·.2)).length = A.length := by simp
 generalize hos : A.map (·.2) = os at *
 refine WF.enter fn10 rfl ?_
 ((repeat refine WC.seq ?_); refine WC.run ?_)
 (try simp only [wk, wl, wx, reduceLT, reduceEqDiff, Nat.reduceBEq, reduceIte])
 refine wop_alloc ty32 ?_
 intro h1 b1 n1 f1
 have b1 : Has h1 h.next zImg := b1
 (try simp only [wk, wl, wx, reduceLT, reduceEqDiff, Nat.reduceBEq, reduceIte])
 refine wop_alloc ty35 ?_
 intro h2 b2 n2 f2
 have b2 : Has h2 h1.next (faultV (0, 0)) := b2
 (try simp only [wk, wl, wx, reduceLT, reduceEqDiff, Nat.reduceBEq, reduceIte])
 have b1 := b1.fix f2 (by omega)
 have F2 : Kept h h2 := ⟨by omega, fun b hb => by rw [f2.same b (by omega), f1.same b hb]⟩
 have a2 := a.fix F2 fun b hb => hb
 (repeat refine WC.seq ?_)
 refine WC.block ?_
 ((repeat refine WC.seq ?_); refine WC.run ?_)
 (try simp only [wk, wl, wx, reduceLT, reduceEqDiff, Nat.reduceBEq, reduceIte, Sl.lenB a2.sl ty38 rfl])
 (repeat refine WC.seq ?_)
 by_cases c1 : A.length = 0
 ·have hP : linkP os base = .error (0, 9) := by unfold linkP; rw [if_pos (by omega)]
  rw [hP]
  refine WC.cond (b := true) (by (try simp only [wk, wl, wx, reduceLT, reduceEqDiff, Nat.reduceBEq, reduceIte, ieq_t (show ((A.length : Nat) : Int) = 0 by omega)]); (try simp); (try omega)) ?_
  (try simp only [wk, wl, wx, reduceLT, reduceEqDiff, Nat.reduceBEq, reduceIte])
  ((repeat refine WC.seq ?_); refine WC.run ?_)
  (try simp only [wk, wl, wx, reduceLT, reduceEqDiff, Nat.reduceBEq, reduceIte, bld32_0])
  refine (bad_ok).mono fun v hb ⟨eb, fb⟩ => ?_
  subst eb
  have xb := fb.next
  (try simp only [wk, wl, wx, reduceLT, reduceEqDiff, Nat.reduceBEq, reduceIte, bld32_0])
  refine sat_store (b1.fix fb (by omega)) ty32 rfl (Nat.le_refl 7) rfl ?_
  intro hc bc nc fc
  (try simp only [wk, wl, wx, reduceLT, reduceEqDiff, Nat.reduceBEq, reduceIte, bld32_0])
  refine sat_store ((b2.fix fb (by omega)).fix fc (by omega)) ty35 rfl (Nat.le_refl 2) (fault_one _) ?_
  intro hd bd nd fd
  have l1 : loadP (E g) hd 32 (.ptr h.next 0) = some (.agg zImg) := (bc.fix fd (by omega)).agg ty32 rfl (Nat.le_refl 7)
  have l2 : loadP (E g) hd 35 (.ptr h1.next 0) = some (.agg (faultV (0, 9))) := bd.agg ty35 rfl (Nat.le_refl 2)
  (try simp only [wk, wl, wx, reduceLT, reduceEqDiff, Nat.reduceBEq, reduceIte])
  refine WC.ret ?_
  (try simp only [wk, wl, wx, reduceLT, reduceEqDiff, Nat.reduceBEq, reduceIte, l1, l2])
  exact ⟨⟨by omega, fun b hb => by rw [fd.same b (by omega), fc.same b (by omega), fb.same b (by omega), F2.same b hb]⟩, by trivial⟩
 ·refine WC.cond (b := false) (by (try simp only [wk, wl, wx, reduceLT, reduceEqDiff, Nat.reduceBEq, reduceIte, ieq_f (show ¬ ((A.length : Nat) : Int) = 0 by omega)]); (try simp); (try omega)) ?_
  (try simp only [wk, wl, wx, reduceLT, reduceEqDiff, Nat.reduceBEq, reduceIte])
  ((repeat refine WC.seq ?_); refine WC.run ?_)
  (try simp only [wk, wl, wx, reduceLT, reduceEqDiff, Nat.reduceBEq, reduceIte, Sl.lenB a2.sl ty38 rfl])
  (repeat refine WC.seq ?_)
  by_cases c2 : 20 < A.length
  ·have hP : linkP os base = .error (0, 18) := by unfold linkP; rw [if_neg (by omega), if_pos (by omega)]
   rw [hP]
   refine WC.cond (b := true) (by (try simp only [wk, wl, wx, reduceLT, reduceEqDiff, Nat.reduceBEq, reduceIte]); (try simp); (try omega)) ?_
   (try simp only [wk, wl, wx, reduceLT, reduceEqDiff, Nat.reduceBEq, reduceIte])
   ((repeat refine WC.seq ?_); refine WC.run ?_)
   (try simp only [wk, wl, wx, reduceLT, reduceEqDiff, Nat.reduceBEq, reduceIte, bld32_0])
   refine (bad_ok).mono fun v hb ⟨eb, fb⟩ => ?_
   subst eb
   have xb := fb.next
   (try simp only [wk, wl, wx, reduceLT, reduceEqDiff, Nat.reduceBEq, reduceIte, bld32_0])
   refine sat_store (b1.fix fb (by omega)) ty32 rfl (Nat.le_refl 7) rfl ?_
   intro hc bc nc fc
   (try simp only [wk, wl, wx, reduceLT, reduceEqDiff, Nat.reduceBEq, reduceIte, bld32_0])
   refine sat_store ((b2.fix fb (by omega)).fix fc (by omega)) ty35 rfl (Nat.le_refl 2) (fault_one _) ?_
   intro hd bd nd fd
   have l1 : loadP (E g) hd 32 (.ptr h.next 0) = some (.agg zImg) := (bc.fix fd (by omega)).agg ty32 rfl (Nat.le_refl 7)
   have l2 : loadP (E g) hd 35 (.ptr h1.next 0) = some (.agg (faultV (0, 18))) := bd.agg ty35 rfl (Nat.le_refl 2)
   (try simp only [wk, wl, wx, reduceLT, reduceEqDiff, Nat.reduceBEq, reduceIte])
   refine WC.ret ?_
   (try simp only [wk, wl, wx, reduceLT, reduceEqDiff, Nat.reduceBEq, reduceIte, l1, l2])
   exact ⟨⟨by omega, fun b hb => by rw [fd.same b (by omega), fc.same b (by omega), fb.same b (by omega), F2.same b hb]⟩, by trivial⟩
  ·refine WC.cond (b := false) (by (try simp only [wk, wl, wx, reduceLT, reduceEqDiff, Nat.reduceBEq, reduceIte]); (try simp); (try omega)) ?_
   (try simp only [wk, wl, wx, reduceLT, reduceEqDiff, Nat.reduceBEq, reduceIte])
   ((repeat refine WC.seq ?_); refine WC.run ?_)
   have hcase : (base < 0 ∨ 1073741824 < base ∨ base.tmod 16 ≠ 0) ∨ (¬ base < 0 ∧ ¬ 1073741824 < base ∧ base.tmod 16 = 0) := by
    by_cases q1 : base < 0
    ·exact .inl (.inl q1)
    ·by_cases q2 : 1073741824 < base
     ·exact .inl (.inr (.inl q2))
     ·by_cases q3 : base.tmod 16 = 0
      ·exact .inr ⟨q1, q2, q3⟩
      ·exact .inl (.inr (.inr q3))
   have rem16 : ∀ {h : H} {c : Bool} {t : Nat} {x : Int}, binV (E g) h c .rem t (.int .i64 x) (.int .i64 16) = some (.int .i64 (x.tmod 16)) := bin_rem (by decide)
   rcases hcase with hbad | ⟨q1, q2, q3⟩
   ·have hP : linkP os base = .error (0, 34) := by unfold linkP; rw [if_neg (by omega), if_neg (by omega), if_pos hbad]
    rw [hP]
    by_cases q1 : base < 0
    ·(try simp only [wk, wl, wx, reduceLT, reduceEqDiff, Nat.reduceBEq, reduceIte, decide_eq_true q1, un])
     (repeat refine WC.seq ?_)
     refine WC.cond (b := true) (by (try simp only [wk, wl, wx, reduceLT, reduceEqDiff, Nat.reduceBEq, reduceIte]); (try simp); (try omega)) ?_
     (try simp only [wk, wl, wx, reduceLT, reduceEqDiff, Nat.reduceBEq, reduceIte])
     ((repeat refine WC.seq ?_); refine WC.run ?_)
     (try simp only [wk, wl, wx, reduceLT, reduceEqDiff, Nat.reduceBEq, reduceIte, bld32_0])
     refine (bad_ok).mono fun v hb ⟨eb, fb⟩ => ?_
     subst eb
     have xb := fb.next
     (try simp only [wk, wl, wx, reduceLT, reduceEqDiff, Nat.reduceBEq, reduceIte, bld32_0])
     refine sat_store (b1.fix fb (by omega)) ty32 rfl (Nat.le_refl 7) rfl ?_
     intro hc bc nc fc
     (try simp only [wk, wl, wx, reduceLT, reduceEqDiff, Nat.reduceBEq, reduceIte, bld32_0])
     refine sat_store ((b2.fix fb (by omega)).fix fc (by omega)) ty35 rfl (Nat.le_refl 2) (fault_one _) ?_
     intro hd bd nd fd
     have l1 : loadP (E g) hd 32 (.ptr h.next 0) = some (.agg zImg) := (bc.fix fd (by omega)).agg ty32 rfl (Nat.le_refl 7)
     have l2 : loadP (E g) hd 35 (.ptr h1.next 0) = some (.agg (faultV (0, 34))) := bd.agg ty35 rfl (Nat.le_refl 2)
     (try simp only [wk, wl, wx, reduceLT, reduceEqDiff, Nat.reduceBEq, reduceIte])
     refine WC.ret ?_
     (try simp only [wk, wl, wx, reduceLT, reduceEqDiff, Nat.reduceBEq, reduceIte, l1, l2])
     exact ⟨⟨by omega, fun b hb => by rw [fd.same b (by omega), fc.same b (by omega), fb.same b (by omega), F2.same b hb]⟩, by trivial⟩
    ·by_cases q2 : 1073741824 < base
     ·(try simp only [wk, wl, wx, reduceLT, reduceEqDiff, Nat.reduceBEq, reduceIte, decide_eq_false q1, decide_eq_true q2, un])
      (repeat refine WC.seq ?_)
      refine WC.cond (b := true) (by (try simp only [wk, wl, wx, reduceLT, reduceEqDiff, Nat.reduceBEq, reduceIte]); (try simp); (try omega)) ?_
      (try simp only [wk, wl, wx, reduceLT, reduceEqDiff, Nat.reduceBEq, reduceIte])
      ((repeat refine WC.seq ?_); refine WC.run ?_)
      (try simp only [wk, wl, wx, reduceLT, reduceEqDiff, Nat.reduceBEq, reduceIte, bld32_0])
      refine (bad_ok).mono fun v hb ⟨eb, fb⟩ => ?_
      subst eb
      have xb := fb.next
      (try simp only [wk, wl, wx, reduceLT, reduceEqDiff, Nat.reduceBEq, reduceIte, bld32_0])
      refine sat_store (b1.fix fb (by omega)) ty32 rfl (Nat.le_refl 7) rfl ?_
      intro hc bc nc fc
      (try simp only [wk, wl, wx, reduceLT, reduceEqDiff, Nat.reduceBEq, reduceIte, bld32_0])
      refine sat_store ((b2.fix fb (by omega)).fix fc (by omega)) ty35 rfl (Nat.le_refl 2) (fault_one _) ?_
      intro hd bd nd fd
      have l1 : loadP (E g) hd 32 (.ptr h.next 0) = some (.agg zImg) := (bc.fix fd (by omega)).agg ty32 rfl (Nat.le_refl 7)
      have l2 : loadP (E g) hd 35 (.ptr h1.next 0) = some (.agg (faultV (0, 34))) := bd.agg ty35 rfl (Nat.le_refl 2)
      (try simp only [wk, wl, wx, reduceLT, reduceEqDiff, Nat.reduceBEq, reduceIte])
      refine WC.ret ?_
      (try simp only [wk, wl, wx, reduceLT, reduceEqDiff, Nat.reduceBEq, reduceIte, l1, l2])
      exact ⟨⟨by omega, fun b hb => by rw [fd.same b (by omega), fc.same b (by omega), fb.same b (by omega), F2.same b hb]⟩, by trivial⟩
     ·have q3 : base.tmod 16 ≠ 0 := by
       rcases hbad with q | q | q
       ·exact absurd q q1
       ·exact absurd q q2
       ·exact q
      (try simp only [wk, wl, wx, reduceLT, reduceEqDiff, Nat.reduceBEq, reduceIte, decide_eq_false q1, decide_eq_false q2, un, rem16, ine_t q3])
      (repeat refine WC.seq ?_)
      refine WC.cond (b := true) (by (try simp only [wk, wl, wx, reduceLT, reduceEqDiff, Nat.reduceBEq, reduceIte]); (try simp); (try omega)) ?_
      (try simp only [wk, wl, wx, reduceLT, reduceEqDiff, Nat.reduceBEq, reduceIte])
      ((repeat refine WC.seq ?_); refine WC.run ?_)
      (try simp only [wk, wl, wx, reduceLT, reduceEqDiff, Nat.reduceBEq, reduceIte, bld32_0])
      refine (bad_ok).mono fun v hb ⟨eb, fb⟩ => ?_
      subst eb
      have xb := fb.next
      (try simp only [wk, wl, wx, reduceLT, reduceEqDiff, Nat.reduceBEq, reduceIte, bld32_0])
      refine sat_store (b1.fix fb (by omega)) ty32 rfl (Nat.le_refl 7) rfl ?_
      intro hc bc nc fc
      (try simp only [wk, wl, wx, reduceLT, reduceEqDiff, Nat.reduceBEq, reduceIte, bld32_0])
      refine sat_store ((b2.fix fb (by omega)).fix fc (by omega)) ty35 rfl (Nat.le_refl 2) (fault_one _) ?_
      intro hd bd nd fd
      have l1 : loadP (E g) hd 32 (.ptr h.next 0) = some (.agg zImg) := (bc.fix fd (by omega)).agg ty32 rfl (Nat.le_refl 7)
      have l2 : loadP (E g) hd 35 (.ptr h1.next 0) = some (.agg (faultV (0, 34))) := bd.agg ty35 rfl (Nat.le_refl 2)
      (try simp only [wk, wl, wx, reduceLT, reduceEqDiff, Nat.reduceBEq, reduceIte])
      refine WC.ret ?_
      (try simp only [wk, wl, wx, reduceLT, reduceEqDiff, Nat.reduceBEq, reduceIte, l1, l2])
      exact ⟨⟨by omega, fun b hb => by rw [fd.same b (by omega), fc.same b (by omega), fb.same b (by omega), F2.same b hb]⟩, by trivial⟩
   ·have bas : Bas base := ⟨by omega, by omega, q3⟩
    have hP0 : linkP os base = (match checkAll 0 os with
     | .error f => .error f
     | .ok _ => match defL 0 os [] with
      | .error f => .error f
      | .ok D => match resL D 0 os [] with
       | .error f => .error f
       | .ok S => if 131072 < sizeL os S then .error (0, 18) else
        match entP base (upN (end1 os) : Nat) (D1 base os D) 0 os with
        | .error f => .error f
        | .ok e => .ok ⟨base, finB base (slotsOf (D1 base os D) (S1 base os S) (sortS ((S1 base os S).map (·.1)))) (rlcL base os (D1 base os D) (S1 base os S) 0 os (layB os 0 os (List.replicate (sizeL os S) 0))), (upN (end1 os) : Nat), e, expsOf (D1 base os D) (sortS ((D1 base os D).map (·.1))), slotsOf (D1 base os D) (S1 base os S) (sortS ((S1 base os S).map (·.1))), needsOf os []⟩) := by
     conv => lhs; unfold linkP
     rw [if_neg (by omega), if_neg (by omega), if_neg (by rintro (q | q | q); · exact q1 q
                                                          ·exact q2 q
                                                          ·exact q q3)]
     rfl
    (try simp only [wk, wl, wx, reduceLT, reduceEqDiff, Nat.reduceBEq, reduceIte, decide_eq_false q1, decide_eq_false q2, un, rem16, ine_f q3])
    (repeat refine WC.seq ?_)
    refine WC.cond (b := false) (by (try simp only [wk, wl, wx, reduceLT, reduceEqDiff, Nat.reduceBEq, reduceIte]); (try simp); (try omega)) (WC.skip ?_)
    (try simp only [wk, wl, wx, reduceLT, reduceEqDiff, Nat.reduceBEq, reduceIte])
    ((repeat refine WC.seq ?_); refine WC.run ?_)
    (try simp only [wk, wl, wx, reduceLT, reduceEqDiff, Nat.reduceBEq, reduceIte, Sl.lenB a2.sl ty38 rfl])
    (repeat refine WC.seq ?_)
    refine WC.block ?_
    refine WC.while (fun m fr hh => ∃ ts i, fr = ⟨ts, 92, [], 10, none⟩ ∧ Kept h2 hh ∧ m = A.length - i ∧ i ≤ A.length ∧ ts.get 0 = some ls ∧ ts.get 1 = some (.int .i64 base) ∧ ts.get 4 = some (.ptr h.next 0) ∧ ts.get 5 = some (.ptr h1.next 0) ∧ ts.get 39 = some ls ∧ ts.get 40 = some (.int .i64 A.length) ∧ ts.get 41 = some (.int .i64 i) ∧ checkAll i (os.drop i) = checkAll 0 os) ?_ ⟨_, 0, rfl, Fix.refl _ _, rfl, by omega, ?_, ?_, ?_, ?_, ?_, ?_, ?_, rfl⟩
    ·rintro m fr hh ⟨ts, i, rfl, ff, rfl, hi, t0, t1, t4, t5, t39, t40, t41, hC⟩
     have xh := ff.next
     have ah := a2.fix ff fun b hb => by omega
     have b1h := b1.fix ff (by omega)
     have b2h := b2.fix ff (by omega)
     ((repeat refine WC.seq ?_); refine WC.run ?_)
     (try simp only [wk, wl, wx, reduceLT, reduceEqDiff, Nat.reduceBEq, reduceIte, t40, t41])
     (repeat refine WC.seq ?_)
     by_cases hlt : i < A.length
     ·refine WC.cond (b := true) (by (try simp only [wk, wl, wx, reduceLT, reduceEqDiff, Nat.reduceBEq, reduceIte]); (try simp); (try omega)) (WC.skip ?_)
      (try simp only [wk, wl, wx, reduceLT, reduceEqDiff, Nat.reduceBEq, reduceIte])
      obtain ⟨p, p1, p2⟩ := ah.sl.at (fun _ => rfl) ty38 rfl ty77 rfl (by decide) rfl hlt
      have p2 := p2 hh fun _ _ _ _ _ => rfl
      have hmem := List.getElem_mem hlt
      have obi := ah.ob _ hmem
      have hoi : os[i]'(by omega) = A[i].2 := by subst hos; simp
      rw [drop_cons (by omega), hoi] at hC
      simp only [checkAll] at hC
      (repeat refine WC.seq ?_)
      refine WC.block ?_
      ((repeat refine WC.seq ?_); refine WC.run ?_)
      (try simp only [wk, wl, wx, reduceLT, reduceEqDiff, Nat.reduceBEq, reduceIte, t39, t41, p1, p2])
      refine wop_alloc ty77 ?_
      intro h4 b4 n4 f4
      (try simp only [wk, wl, wx, reduceLT, reduceEqDiff, Nat.reduceBEq, reduceIte])
      refine sat_store b4 ty77 rfl (Nat.le_refl 7) (Oc.one obi) ?_
      intro h5 b5 n5 f5
      have F5 : Kept hh h5 := ⟨by omega, fun b hb => by rw [f5.same b (by omega), f4.same b hb]⟩
      have c5 : Has h5 hh.next (A[i].1.cells A[i].2) := b5
      have l5 : loadP (E g) h5 77 (.ptr hh.next 0) = some (.agg (A[i].1.cells A[i].2)) := c5.agg ty77 rfl (Nat.le_refl 7)
      (try simp only [wk, wl, wx, reduceLT, reduceEqDiff, Nat.reduceBEq, reduceIte])
      ((repeat refine WC.seq ?_); refine WC.run ?_)
      (try simp only [wk, wl, wx, reduceLT, reduceEqDiff, Nat.reduceBEq, reduceIte, l5])
      refine (check_ok ((obi.fix F5 fun b hb => by omega).up fun b hb => by omega) (fA _ hmem)).mono fun v h6 ⟨e6, f6⟩ => ?_
      subst e6
      have x6 := f6.next
      have F6 : Kept hh h6 := ⟨by omega, fun b hb => by rw [f6.same b (by omega), F5.same b hb]⟩
      (try simp only [wk, wl, wx, reduceLT, reduceEqDiff, Nat.reduceBEq, reduceIte])
      ((repeat refine WC.seq ?_); refine WC.run ?_)
      (try simp only [wk, wl, wx, reduceLT, reduceEqDiff, Nat.reduceBEq, reduceIte, i64, bin_neq])
      (repeat refine WC.seq ?_)
      by_cases he : checkE A[i].2 = 0
      ·rw [if_pos he] at hC
       refine WC.cond (b := false) (by (try simp only [wk, wl, wx, reduceLT, reduceEqDiff, Nat.reduceBEq, reduceIte, ine_f he]); (try simp); (try omega)) (WC.skip ?_)
       (try simp only [wk, wl, wx, reduceLT, reduceEqDiff, Nat.reduceBEq, reduceIte])
       ((repeat refine WC.seq ?_); refine WC.run ?_)
       (try simp only [wk, wl, wx, reduceLT, reduceEqDiff, Nat.reduceBEq, reduceIte, t41, bin_add])
       refine ⟨_, ?_, _, i + 1, rfl, ⟨by omega, fun b hb => by rw [F6.same b (by omega), ff.same b hb]⟩, rfl, by omega, ?_⟩
       ·omega
       (try simp only [wk, wl, wx, reduceLT, reduceEqDiff, Nat.reduceBEq, reduceIte, t0, t1, t4, t5, t39, t40])
       refine ⟨trivial, trivial, trivial, trivial, trivial, trivial, ?_, hC⟩
       rw [wrap64 (by omega) (by omega)]; rfl
      ·rw [if_neg he] at hC
       rw [hP0, ← hC]
       have b1h := b1h.fix F6 (by omega)
       have b2h := b2h.fix F6 (by omega)
       refine WC.cond (b := true) (by (try simp only [wk, wl, wx, reduceLT, reduceEqDiff, Nat.reduceBEq, reduceIte, ine_t he]); (try simp); (try omega)) ?_
       (try simp only [wk, wl, wx, reduceLT, reduceEqDiff, Nat.reduceBEq, reduceIte])
       ((repeat refine WC.seq ?_); refine WC.run ?_)
       (try simp only [wk, wl, wx, reduceLT, reduceEqDiff, Nat.reduceBEq, reduceIte, bld32_0, t4, t5, i64])
       refine (bad_ok).mono fun v hb ⟨eb, fb⟩ => ?_
       subst eb
       have xb := fb.next
       (try simp only [wk, wl, wx, reduceLT, reduceEqDiff, Nat.reduceBEq, reduceIte, bld32_0, t4, t5, i64])
       refine sat_store (b1h.fix fb (by omega)) ty32 rfl (Nat.le_refl 7) rfl ?_
       intro hc bc nc fc
       (try simp only [wk, wl, wx, reduceLT, reduceEqDiff, Nat.reduceBEq, reduceIte, bld32_0, t4, t5, i64])
       refine sat_store ((b2h.fix fb (by omega)).fix fc (by omega)) ty35 rfl (Nat.le_refl 2) (fault_one _) ?_
       intro hd bd nd fd
       have l1 : loadP (E g) hd 32 (.ptr h.next 0) = some (.agg zImg) := (bc.fix fd (by omega)).agg ty32 rfl (Nat.le_refl 7)
       have l2 : loadP (E g) hd 35 (.ptr h1.next 0) = some (.agg (faultV ((i : Int), checkE A[i].2))) := bd.agg ty35 rfl (Nat.le_refl 2)
       (try simp only [wk, wl, wx, reduceLT, reduceEqDiff, Nat.reduceBEq, reduceIte])
       refine WC.ret ?_
       (try simp only [wk, wl, wx, reduceLT, reduceEqDiff, Nat.reduceBEq, reduceIte, l1, l2, t4, t5, i64])
       exact ⟨⟨by omega, fun b hb => by rw [fd.same b (by omega), fc.same b (by omega), fb.same b (by omega), F6.same b (by omega), ff.same b (by omega), F2.same b hb]⟩, by trivial⟩
     ·refine WC.cond (b := false) (by (try simp only [wk, wl, wx, reduceLT, reduceEqDiff, Nat.reduceBEq, reduceIte]); (try simp); (try omega)) (WC.exit ?_)
      have : i = A.length := by omega
      subst this
      rw [List.drop_eq_nil_of_le (by omega)] at hC
      have hC : checkAll 0 os = .ok () := hC.symm
      have hok := checkAll_ok hC
      (try simp only [wk, wl, wx, reduceLT, reduceEqDiff, Nat.reduceBEq, reduceIte, nb1])
      ((repeat refine WC.seq ?_); refine WC.run ?_)
      (try simp only [wk, wl, wx, reduceLT, reduceEqDiff, Nat.reduceBEq, reduceIte, t0, t1])
      refine wop_makeMapQ ?_
      intro h6 m6 n6 f6
      (try simp only [wk, wl, wx, reduceLT, reduceEqDiff, Nat.reduceBEq, reduceIte])
      refine wop_makeMapQ ?_
      intro h7 m7 n7 f7
      have m6 := m6.fix f7 (by omega)
      have one : ls.cells = [ls] := (Sl.one ah.sl).1
      have hone : ls.one = true := (Sl.one ah.sl).2
      (try simp only [wk, wl, wx, reduceLT, reduceEqDiff, Nat.reduceBEq, reduceIte, t0, t1, bld105 one])
      refine wop_box (v := .agg (lkV ls base .nils hh.next h6.next (im0 0))) (by (try simp only [wk, wl, wx, reduceLT, reduceEqDiff, Nat.reduceBEq, reduceIte])) ?_
      intro h8 b8 n8 f8
      have b8 : Has h8 h7.next (lkV ls base .nils hh.next h6.next (im0 0)) := b8
      have m6 := m6.fix f8 (by omega)
      have m7 := m7.fix f8 (by omega)
      have F8 : Kept hh h8 := ⟨by omega, fun b hb => by rw [f8.same b (by omega), f7.same b (by omega), f6.same b hb]⟩
      have a8 := ah.fix F8 fun b hb => by omega
      have b1h := b1h.fix F8 (by omega)
      have b2h := b2h.fix F8 (by omega)
      have F8h : Kept h h8 := ⟨by omega, fun b hb => by rw [F8.same b (by omega), ff.same b (by omega), F2.same b hb]⟩
      generalize hkb : h7.next = kb at *
      generalize hdb : hh.next = db at *
      generalize hsb : h6.next = sb at *
      (try simp only [wk, wl, wx, reduceLT, reduceEqDiff, Nat.reduceBEq, reduceIte])
      ((repeat refine WC.seq ?_); refine WC.run ?_)
      (try simp only [wk, wl, wx, reduceLT, reduceEqDiff, Nat.reduceBEq, reduceIte, w_makeFunc])
      refine sat_buildSlice (cs := [.func 32 [.ptr kb 0] [], .func 33 [.ptr kb 0] [], .func 34 [.ptr kb 0] [], .func 35 [.ptr kb 0] []]) ty107 rfl ty106 rfl (by decide) (by decide) rfl rfl ?_
      intro h9 bf9 n9 f9
      have bf9 := bf9.sl.block (c := 0) (by decide)
      have m6 : Mq h9 db (mv dV []) := m6.fix f9 (by omega)
      have m7 : Mq h9 sb (mv i64 []) := m7.fix f9 (by omega)
      have b9 := b8.fix f9 (by omega)
      have a9 := a8.fix f9 fun b hb => by omega
      have b1h := b1h.fix f9 (by omega)
      have b2h := b2h.fix f9 (by omega)
      have F9h : Kept h h9 := ⟨by omega, fun b hb => by rw [f9.same b (by omega), F8h.same b hb]⟩
      generalize hfb : h8.next = fb at *
      have lf : ∀ (k : Nat), k < 4 → indexAddrV (E g) 107 (.slice fb 0 4 (.lit 4)) (.int .i64 k) = some (.ptr fb k) := fun k hk => by
       have := idx_slice (g := g) (b := fb) (o := 0) (n := 4) (k := k) (c := .lit 4) (ik := .i64) ty107 rfl ty106 hk
       simpa using this
      have lf0 : indexAddrV (E g) 107 (.slice fb 0 4 (.lit 4)) (.int .i64 0) = some (.ptr fb 0) := lf 0 (by decide)
      have lf1 : indexAddrV (E g) 107 (.slice fb 0 4 (.lit 4)) (.int .i64 1) = some (.ptr fb 1) := lf 1 (by decide)
      have lf2 : indexAddrV (E g) 107 (.slice fb 0 4 (.lit 4)) (.int .i64 2) = some (.ptr fb 2) := lf 2 (by decide)
      have lf3 : indexAddrV (E g) 107 (.slice fb 0 4 (.lit 4)) (.int .i64 3) = some (.ptr fb 3) := lf 3 (by decide)
      have lB : ∀ (h' : H) (k : Nat), At h' fb 0 [.func 32 [.ptr kb 0] [], .func 33 [.ptr kb 0] [], .func 34 [.ptr kb 0] [], .func 35 [.ptr kb 0] []] → k < 4 → loadP (E g) h' 106 (.ptr fb k) = ([.func 32 [.ptr kb 0] [], .func 33 [.ptr kb 0] [], .func 34 [.ptr kb 0] [], .func 35 [.ptr kb 0] []] : List V)[k]? := fun h' k ha hk => by
       have := ha.at (E := E g) (j := k) ty106 rfl hk
       simpa using this
      have ll4 : lenB (E g) h9 107 (.slice fb 0 4 (.lit 4)) = some (.int .i64 4) := by simp only [lenB, ty107]; rfl
      (try simp only [wk, wl, wx, reduceLT, reduceEqDiff, Nat.reduceBEq, reduceIte, ll4])
      (repeat refine WC.seq ?_)
      refine WC.block ?_
      have hne : A.length ≤ 20 := by omega
      have hMx : ∀ o ∈ os, o.code.length ≤ 16384 ∧ o.data.length ≤ 16384 := fun o ho => ⟨(hok o ho).code, (hok o ho).data⟩

      refine WC.loop ?_
      ((repeat refine WC.seq ?_); refine WC.run ?_)
      (try simp only [wk, wl, wx, reduceLT, reduceEqDiff, Nat.reduceBEq, reduceIte])
      (repeat refine WC.seq ?_)
      refine WC.cond (b := true) (by (try simp only [wk, wl, wx, reduceLT, reduceEqDiff, Nat.reduceBEq, reduceIte]); (try simp); (try omega)) (WC.skip ?_)
      (try simp only [wk, wl, wx, reduceLT, reduceEqDiff, Nat.reduceBEq, reduceIte])
      (repeat refine WC.seq ?_)
      refine WC.block ?_
      ((repeat refine WC.seq ?_); refine WC.run ?_)
      (try simp only [wk, wl, wx, reduceLT, reduceEqDiff, Nat.reduceBEq, reduceIte, lf0, lB _ 0 bf9 (by decide)])
      ((repeat refine WC.seq ?_); refine WC.run ?_)
      (try simp only [wk, wl, wx, reduceLT, reduceEqDiff, Nat.reduceBEq, reduceIte])
      refine (define_ok (n0 := h.next) (by omega) (a9.up fun b hb => hb) fA lA b9 m6 (by omega) (by omega) (by omega) (by omega) (by omega)).mono fun v hD ⟨fD, mD⟩ => ?_
      rw [hos] at mD
      have xD := fD.next
      have b1h := b1h.fix fD ⟨by omega, by omega⟩
      have b2h := b2h.fix fD ⟨by omega, by omega⟩
      have FDh : Kept h hD := ⟨by omega, fun b hb => by rw [fD.same b ⟨by omega, by omega⟩, F9h.same b hb]⟩
      cases hd : defL 0 os [] with
      | error f =>
       rw [hd] at mD
       simp only at mD
       subst mD
       have hf2 : ¬ f.2 = 0 := by rw [defL_err hd]; decide
       rw [hP0, hC, hd]
       (try simp only [wk, wl, wx, reduceLT, reduceEqDiff, Nat.reduceBEq, reduceIte])
       refine wop_alloc ty35 ?_
       intro hx bx nx fx
       (try simp only [wk, wl, wx, reduceLT, reduceEqDiff, Nat.reduceBEq, reduceIte])
       refine sat_store bx ty35 rfl (Nat.le_refl 2) (fault_one _) ?_
       intro hy by' ny fy
       have by2 : Has hy hD.next [i64 f.1, i64 f.2] := by'
       have ly : loadP (E g) hy 35 (.ptr hD.next 0) = some (.agg (faultV f)) := by'.agg ty35 rfl (Nat.le_refl 2)
       have Fy : Kept hD hy := ⟨by omega, fun b hb => by rw [fy.same b (by omega), fx.same b hb]⟩
       (try simp only [wk, wl, wx, reduceLT, reduceEqDiff, Nat.reduceBEq, reduceIte])
       ((repeat refine WC.seq ?_); refine WC.run ?_)
       (try simp only [wk, wl, wx, reduceLT, reduceEqDiff, Nat.reduceBEq, reduceIte, fa35_1, Nat.zero_add, by2.at ty33 rfl, i64, bin_neq, ine_t hf2])
       (repeat refine WC.seq ?_)
       refine WC.cond (b := true) (by (try simp only [wk, wl, wx, reduceLT, reduceEqDiff, Nat.reduceBEq, reduceIte]); (try simp); (try omega)) ?_
       (try simp only [wk, wl, wx, reduceLT, reduceEqDiff, Nat.reduceBEq, reduceIte])
       ((repeat refine WC.seq ?_); refine WC.draw (plans := pl10_20) (by kernel_rfl) ?_; simp only [pl10_20, List.mem_cons, List.not_mem_nil, or_false, forall_eq_or_imp, forall_eq])
       (try simp (maxSteps := 2000000) only [wk, wl, wx, reduceLT, reduceEqDiff, Nat.reduceBEq, reduceIte, wd, Chk, and_true, true_and, t4, t5, bld32_0, ly])
       refine sat_store (b1h.fix Fy (by omega)) ty32 rfl (Nat.le_refl 7) rfl ?_
       intro hc bc nc fc
       have lyc : loadP (E g) hc 35 (.ptr hD.next 0) = some (.agg (faultV f)) := (by'.fix fc (by omega)).agg ty35 rfl (Nat.le_refl 2)
       (try simp (maxSteps := 2000000) only [wk, wl, wx, reduceLT, reduceEqDiff, Nat.reduceBEq, reduceIte, wd, Chk, and_true, true_and, t4, t5, bld32_0, lyc])
       refine sat_store ((b2h.fix Fy (by omega)).fix fc (by omega)) ty35 rfl (Nat.le_refl 2) (fault_one _) ?_
       intro hd bd nd fd
       have l1 : loadP (E g) hd 32 (.ptr h.next 0) = some (.agg zImg) := (bc.fix fd (by omega)).agg ty32 rfl (Nat.le_refl 7)
       have l2 : loadP (E g) hd 35 (.ptr h1.next 0) = some (.agg (faultV f)) := bd.agg ty35 rfl (Nat.le_refl 2)
       have lyd : loadP (E g) hd 35 (.ptr hD.next 0) = some (.agg (faultV f)) := ((by'.fix fc (by omega)).fix fd (by omega)).agg ty35 rfl (Nat.le_refl 2)
       (try simp (maxSteps := 2000000) only [wk, wl, wx, reduceLT, reduceEqDiff, Nat.reduceBEq, reduceIte, wd, Chk, and_true, true_and, t4, t5, bld32_0, lyd])
       refine WC.ret ?_
       (try simp only [wk, wl, wx, reduceLT, reduceEqDiff, Nat.reduceBEq, reduceIte, t4, t5, l1, l2])
       exact ⟨⟨by omega, fun b hb => by rw [fd.same b (by omega), fc.same b (by omega), Fy.same b (by omega), FDh.same b hb]⟩, by trivial⟩
      | ok D =>
       rw [hd] at mD
       obtain ⟨e9, mD⟩ := mD
       subst e9
       have bf9 := bf9.fix fD ⟨by omega, by omega⟩
       have b9 := b9.fix fD ⟨by omega, by omega⟩
       have m7 := m7.fix fD ⟨by omega, by omega⟩
       have a9 := a9.fix fD fun b hb => ⟨by omega, by omega⟩
       (try simp only [wk, wl, wx, reduceLT, reduceEqDiff, Nat.reduceBEq, reduceIte])
       refine wop_alloc ty35 ?_
       intro hDx bx nx fx
       (try simp only [wk, wl, wx, reduceLT, reduceEqDiff, Nat.reduceBEq, reduceIte])
       refine sat_store bx ty35 rfl (Nat.le_refl 2) (fault_one _) ?_
       intro hDy by' ny fy
       have by2 : Has hDy hD.next [i64 0, i64 0] := by'
       have Fy : Kept hD hDy := ⟨by omega, fun b hb => by rw [fy.same b (by omega), fx.same b hb]⟩
       (try simp only [wk, wl, wx, reduceLT, reduceEqDiff, Nat.reduceBEq, reduceIte])
       ((repeat refine WC.seq ?_); refine WC.run ?_)
       (try simp only [wk, wl, wx, reduceLT, reduceEqDiff, Nat.reduceBEq, reduceIte, fa35_1, Nat.zero_add, by2.at ty33 rfl, i64, bin_neq, ine_f rfl])
       (repeat refine WC.seq ?_)
       refine WC.cond (b := false) (by (try simp only [wk, wl, wx, reduceLT, reduceEqDiff, Nat.reduceBEq, reduceIte]); (try simp); (try omega)) (WC.skip ?_)
       (try simp only [wk, wl, wx, reduceLT, reduceEqDiff, Nat.reduceBEq, reduceIte])
       ((repeat refine WC.seq ?_); refine WC.run ?_)
       (try simp only [wk, wl, wx, reduceLT, reduceEqDiff, Nat.reduceBEq, reduceIte, bin_add])

       have bf9 := bf9.fix Fy (by omega)
       have b9 := b9.fix Fy (by omega)
       have m7 := m7.fix Fy (by omega)
       have mD := mD.fix Fy (by omega)
       have a9 := a9.fix Fy fun b hb => by omega
       have b1h := b1h.fix Fy (by omega)
       have b2h := b2h.fix Fy (by omega)
       have FDh : Kept h hDy := ⟨by omega, fun b hb => by rw [Fy.same b (by omega), FDh.same b hb]⟩
       have hlsy : ∀ o ∈ os, o.syms.length ≤ 500 := fun o ho => (hok o ho).nsym
       obtain ⟨dd, dn, dl⟩ := defL_ok (os := os) (by simp) hlsy hd (fun p hp => by cases hp) (by simp)
       have w0 : IntKind.i64.wrap (0 + 1) = 1 := by decide
       have w1 : IntKind.i64.wrap (1 + 1) = 2 := by decide
       have w2 : IntKind.i64.wrap (2 + 1) = 3 := by decide
       have w3 : IntKind.i64.wrap (3 + 1) = 4 := by decide

       refine WC.loop ?_
       ((repeat refine WC.seq ?_); refine WC.run ?_)
       (try simp only [wk, wl, wx, reduceLT, reduceEqDiff, Nat.reduceBEq, reduceIte, w0])
       (repeat refine WC.seq ?_)
       refine WC.cond (b := true) (by (try simp only [wk, wl, wx, reduceLT, reduceEqDiff, Nat.reduceBEq, reduceIte]); (try simp); (try omega)) (WC.skip ?_)
       (try simp only [wk, wl, wx, reduceLT, reduceEqDiff, Nat.reduceBEq, reduceIte])
       (repeat refine WC.seq ?_)
       refine WC.block ?_
       ((repeat refine WC.seq ?_); refine WC.run ?_)
       (try simp only [wk, wl, wx, reduceLT, reduceEqDiff, Nat.reduceBEq, reduceIte, lf1, lB _ 1 bf9 (by decide)])
       ((repeat refine WC.seq ?_); refine WC.run ?_)
       (try simp only [wk, wl, wx, reduceLT, reduceEqDiff, Nat.reduceBEq, reduceIte])
       refine (resolved_ok (n0 := h.next) (by omega) a9 fA lA b9 mD m7 (by omega) (by omega) (by omega) (by omega) (by omega) (by omega) (by omega) (by omega) (by omega)).mono fun v hS ⟨fS, mS⟩ => ?_
       rw [hos] at mS
       have xS := fS.next
       have b1h := b1h.fix fS ⟨by omega, by omega⟩
       have b2h := b2h.fix fS ⟨by omega, by omega⟩
       have FSh : Kept h hS := ⟨by omega, fun b hb => by rw [fS.same b ⟨by omega, by omega⟩, FDh.same b hb]⟩
       cases hr : resL D 0 os [] with
       | error f =>
        rw [hr] at mS
        simp only at mS
        subst mS
        have hf2 : ¬ f.2 = 0 := by rw [resL_err hr]; decide
        rw [hP0, hC, hd]
        simp only [hr]
        (try simp only [wk, wl, wx, reduceLT, reduceEqDiff, Nat.reduceBEq, reduceIte])
        refine wop_alloc ty35 ?_
        intro hx bx nx fx
        (try simp only [wk, wl, wx, reduceLT, reduceEqDiff, Nat.reduceBEq, reduceIte])
        refine sat_store bx ty35 rfl (Nat.le_refl 2) (fault_one _) ?_
        intro hy by' ny fy
        have by2 : Has hy hS.next [i64 f.1, i64 f.2] := by'
        have ly : loadP (E g) hy 35 (.ptr hS.next 0) = some (.agg (faultV f)) := by'.agg ty35 rfl (Nat.le_refl 2)
        have Fy : Kept hS hy := ⟨by omega, fun b hb => by rw [fy.same b (by omega), fx.same b hb]⟩
        (try simp only [wk, wl, wx, reduceLT, reduceEqDiff, Nat.reduceBEq, reduceIte])
        ((repeat refine WC.seq ?_); refine WC.run ?_)
        (try simp only [wk, wl, wx, reduceLT, reduceEqDiff, Nat.reduceBEq, reduceIte, fa35_1, Nat.zero_add, by2.at ty33 rfl, i64, bin_neq, ine_t hf2])
        (repeat refine WC.seq ?_)
        refine WC.cond (b := true) (by (try simp only [wk, wl, wx, reduceLT, reduceEqDiff, Nat.reduceBEq, reduceIte]); (try simp); (try omega)) ?_
        (try simp only [wk, wl, wx, reduceLT, reduceEqDiff, Nat.reduceBEq, reduceIte])
        ((repeat refine WC.seq ?_); refine WC.draw (plans := pl10_20) (by kernel_rfl) ?_; simp only [pl10_20, List.mem_cons, List.not_mem_nil, or_false, forall_eq_or_imp, forall_eq])
        (try simp (maxSteps := 2000000) only [wk, wl, wx, reduceLT, reduceEqDiff, Nat.reduceBEq, reduceIte, wd, Chk, and_true, true_and, t4, t5, bld32_0, ly])
        refine sat_store (b1h.fix Fy (by omega)) ty32 rfl (Nat.le_refl 7) rfl ?_
        intro hc bc nc fc
        have lyc : loadP (E g) hc 35 (.ptr hS.next 0) = some (.agg (faultV f)) := (by'.fix fc (by omega)).agg ty35 rfl (Nat.le_refl 2)
        (try simp (maxSteps := 2000000) only [wk, wl, wx, reduceLT, reduceEqDiff, Nat.reduceBEq, reduceIte, wd, Chk, and_true, true_and, t4, t5, bld32_0, lyc])
        refine sat_store ((b2h.fix Fy (by omega)).fix fc (by omega)) ty35 rfl (Nat.le_refl 2) (fault_one _) ?_
        intro hd bd nd fd
        have l1 : loadP (E g) hd 32 (.ptr h.next 0) = some (.agg zImg) := (bc.fix fd (by omega)).agg ty32 rfl (Nat.le_refl 7)
        have l2 : loadP (E g) hd 35 (.ptr h1.next 0) = some (.agg (faultV f)) := bd.agg ty35 rfl (Nat.le_refl 2)
        have lyd : loadP (E g) hd 35 (.ptr hS.next 0) = some (.agg (faultV f)) := ((by'.fix fc (by omega)).fix fd (by omega)).agg ty35 rfl (Nat.le_refl 2)
        (try simp (maxSteps := 2000000) only [wk, wl, wx, reduceLT, reduceEqDiff, Nat.reduceBEq, reduceIte, wd, Chk, and_true, true_and, t4, t5, bld32_0, lyd])
        refine WC.ret ?_
        (try simp only [wk, wl, wx, reduceLT, reduceEqDiff, Nat.reduceBEq, reduceIte, t4, t5, l1, l2])
        exact ⟨⟨by omega, fun b hb => by rw [fd.same b (by omega), fc.same b (by omega), Fy.same b (by omega), FSh.same b hb]⟩, by trivial⟩
       | ok S =>
        rw [hr] at mS
        obtain ⟨e9, mS⟩ := mS
        subst e9
        have bf9 := bf9.fix fS ⟨by omega, by omega⟩
        have b9 := b9.fix fS ⟨by omega, by omega⟩
        have mD := mD.fix fS ⟨by omega, by omega⟩
        have a9 := a9.fix fS fun b hb => ⟨by omega, by omega⟩
        (try simp only [wk, wl, wx, reduceLT, reduceEqDiff, Nat.reduceBEq, reduceIte])
        refine wop_alloc ty35 ?_
        intro hSx bx nx fx
        (try simp only [wk, wl, wx, reduceLT, reduceEqDiff, Nat.reduceBEq, reduceIte])
        refine sat_store bx ty35 rfl (Nat.le_refl 2) (fault_one _) ?_
        intro hSy by' ny fy
        have by2 : Has hSy hS.next [i64 0, i64 0] := by'
        have Fy : Kept hS hSy := ⟨by omega, fun b hb => by rw [fy.same b (by omega), fx.same b hb]⟩
        (try simp only [wk, wl, wx, reduceLT, reduceEqDiff, Nat.reduceBEq, reduceIte])
        ((repeat refine WC.seq ?_); refine WC.run ?_)
        (try simp only [wk, wl, wx, reduceLT, reduceEqDiff, Nat.reduceBEq, reduceIte, fa35_1, Nat.zero_add, by2.at ty33 rfl, i64, bin_neq, ine_f rfl])
        (repeat refine WC.seq ?_)
        refine WC.cond (b := false) (by (try simp only [wk, wl, wx, reduceLT, reduceEqDiff, Nat.reduceBEq, reduceIte]); (try simp); (try omega)) (WC.skip ?_)
        (try simp only [wk, wl, wx, reduceLT, reduceEqDiff, Nat.reduceBEq, reduceIte])
        ((repeat refine WC.seq ?_); refine WC.run ?_)
        (try simp only [wk, wl, wx, reduceLT, reduceEqDiff, Nat.reduceBEq, reduceIte, bin_add])

        have bf9 := bf9.fix Fy (by omega)
        have b9 := b9.fix Fy (by omega)
        have mD := mD.fix Fy (by omega)
        have mS := mS.fix Fy (by omega)
        have a9 := a9.fix Fy fun b hb => by omega
        have b1h := b1h.fix Fy (by omega)
        have b2h := b2h.fix Fy (by omega)
        have FSh : Kept h hSy := ⟨by omega, fun b hb => by rw [Fy.same b (by omega), FSh.same b hb]⟩
        obtain ⟨sd, sn, sl⟩ := resL_ok (os := os) (r := os) (fun o ho => ⟨ho, (hok o ho).nrel⟩) hr (fun p hp => by cases hp) (by simp)
        have gD : ∀ p ∈ D, GoodG os p.2 := fun p hp => by
         obtain ⟨o, q1, q2, q3, _, _⟩ := dd p hp
         have hmo := List.mem_of_getElem? q1
         have so := (hok o hmo).syms _ q2
         have h0 := so.s0
         have h2 := so.s2
         have h3 := so.o0
         exact ⟨(List.getElem?_eq_some_iff.1 q1).1, by omega, h2, h3, (hok o hmo).off q2⟩
        have kD : ∀ p ∈ D, p.1.length ≤ 2 ^ 20 := fun p hp => by
         obtain ⟨o, q1, q2, _, _, q5⟩ := dd p hp
         have := ((hok o (List.mem_of_getElem? q1)).syms _ q2).name
         rw [q5]; omega
        have kS : ∀ p ∈ S, p.1.length ≤ 2 ^ 20 := fun p hp => by
         obtain ⟨_, o, ho, r, hr', e⟩ := sd p hp
         obtain ⟨s, hs, e2⟩ := ((hok o ho).rels r hr').known
         have := ((hok o ho).syms s hs).name
         rw [e, ← e2]; omega
        simp only [List.length_nil, Nat.zero_add] at dl sl

        refine WC.loop ?_
        ((repeat refine WC.seq ?_); refine WC.run ?_)
        (try simp only [wk, wl, wx, reduceLT, reduceEqDiff, Nat.reduceBEq, reduceIte, w1])
        (repeat refine WC.seq ?_)
        refine WC.cond (b := true) (by (try simp only [wk, wl, wx, reduceLT, reduceEqDiff, Nat.reduceBEq, reduceIte]); (try simp); (try omega)) (WC.skip ?_)
        (try simp only [wk, wl, wx, reduceLT, reduceEqDiff, Nat.reduceBEq, reduceIte])
        (repeat refine WC.seq ?_)
        refine WC.block ?_
        ((repeat refine WC.seq ?_); refine WC.run ?_)
        (try simp only [wk, wl, wx, reduceLT, reduceEqDiff, Nat.reduceBEq, reduceIte, lf2, lB _ 2 bf9 (by decide)])
        ((repeat refine WC.seq ?_); refine WC.run ?_)
        (try simp only [wk, wl, wx, reduceLT, reduceEqDiff, Nat.reduceBEq, reduceIte])
        refine (layout_ok (n0 := h.next) bas (by omega) a9 w hne (by rw [hos]; exact hMx) b9 mD mS (by omega) (by omega) (by omega) (by omega) (by omega) (by omega) (by omega) (by omega) (by omega) (by rw [hos]; exact gD) dn (by omega) sn (by omega) kS).mono fun v hL ⟨fL, mL⟩ => ?_
        rw [hos] at mL
        have xL := fL.next
        have b1h := b1h.fix fL ⟨by omega, by omega, by omega, by omega⟩
        have b2h := b2h.fix fL ⟨by omega, by omega, by omega, by omega⟩
        have FLh : Kept h hL := ⟨by omega, fun b hb => by rw [fL.same b ⟨by omega, by omega, by omega, by omega⟩, FSh.same b hb]⟩
        by_cases hbig : 131072 < sizeL os S
        ·rw [if_pos hbig] at mL
         subst mL
         have hPe : linkP os base = .error (0, 18) := by rw [hP0, hC, hd]; simp only [hr]; rw [if_pos hbig]
         rw [hPe]
         generalize hff : ((0, 18) : Int × Int) = f
         have hf2 : ¬ f.2 = 0 := by rw [← hff]; decide
         (try simp only [wk, wl, wx, reduceLT, reduceEqDiff, Nat.reduceBEq, reduceIte])
         refine wop_alloc ty35 ?_
         intro hx bx nx fx
         (try simp only [wk, wl, wx, reduceLT, reduceEqDiff, Nat.reduceBEq, reduceIte])
         refine sat_store bx ty35 rfl (Nat.le_refl 2) (fault_one _) ?_
         intro hy by' ny fy
         have by2 : Has hy hL.next [i64 f.1, i64 f.2] := by'
         have ly : loadP (E g) hy 35 (.ptr hL.next 0) = some (.agg (faultV f)) := by'.agg ty35 rfl (Nat.le_refl 2)
         have Fy : Kept hL hy := ⟨by omega, fun b hb => by rw [fy.same b (by omega), fx.same b hb]⟩
         (try simp only [wk, wl, wx, reduceLT, reduceEqDiff, Nat.reduceBEq, reduceIte])
         ((repeat refine WC.seq ?_); refine WC.run ?_)
         (try simp only [wk, wl, wx, reduceLT, reduceEqDiff, Nat.reduceBEq, reduceIte, fa35_1, Nat.zero_add, by2.at ty33 rfl, i64, bin_neq, ine_t hf2])
         (repeat refine WC.seq ?_)
         refine WC.cond (b := true) (by (try simp only [wk, wl, wx, reduceLT, reduceEqDiff, Nat.reduceBEq, reduceIte]); (try simp); (try omega)) ?_
         (try simp only [wk, wl, wx, reduceLT, reduceEqDiff, Nat.reduceBEq, reduceIte])
         ((repeat refine WC.seq ?_); refine WC.draw (plans := pl10_20) (by kernel_rfl) ?_; simp only [pl10_20, List.mem_cons, List.not_mem_nil, or_false, forall_eq_or_imp, forall_eq])
         (try simp (maxSteps := 2000000) only [wk, wl, wx, reduceLT, reduceEqDiff, Nat.reduceBEq, reduceIte, wd, Chk, and_true, true_and, t4, t5, bld32_0, ly])
         refine sat_store (b1h.fix Fy (by omega)) ty32 rfl (Nat.le_refl 7) rfl ?_
         intro hc bc nc fc
         have lyc : loadP (E g) hc 35 (.ptr hL.next 0) = some (.agg (faultV f)) := (by'.fix fc (by omega)).agg ty35 rfl (Nat.le_refl 2)
         (try simp (maxSteps := 2000000) only [wk, wl, wx, reduceLT, reduceEqDiff, Nat.reduceBEq, reduceIte, wd, Chk, and_true, true_and, t4, t5, bld32_0, lyc])
         refine sat_store ((b2h.fix Fy (by omega)).fix fc (by omega)) ty35 rfl (Nat.le_refl 2) (fault_one _) ?_
         intro hd bd nd fd
         have l1 : loadP (E g) hd 32 (.ptr h.next 0) = some (.agg zImg) := (bc.fix fd (by omega)).agg ty32 rfl (Nat.le_refl 7)
         have l2 : loadP (E g) hd 35 (.ptr h1.next 0) = some (.agg (faultV f)) := bd.agg ty35 rfl (Nat.le_refl 2)
         have lyd : loadP (E g) hd 35 (.ptr hL.next 0) = some (.agg (faultV f)) := ((by'.fix fc (by omega)).fix fd (by omega)).agg ty35 rfl (Nat.le_refl 2)
         (try simp (maxSteps := 2000000) only [wk, wl, wx, reduceLT, reduceEqDiff, Nat.reduceBEq, reduceIte, wd, Chk, and_true, true_and, t4, t5, bld32_0, lyd])
         refine WC.ret ?_
         (try simp only [wk, wl, wx, reduceLT, reduceEqDiff, Nat.reduceBEq, reduceIte, t4, t5, l1, l2])
         exact ⟨⟨by omega, fun b hb => by rw [fd.same b (by omega), fc.same b (by omega), Fy.same b (by omega), FLh.same b hb]⟩, by trivial⟩
        ·rw [if_neg hbig] at mL
         obtain ⟨e9, stb, bb, u1, u2, u3, u4, u5, bkL, bsL, bbL, mdL, msL⟩ := mL
         subst e9
         have bf9 := bf9.fix fL ⟨by omega, by omega, by omega, by omega⟩
         have a9 := a9.fix fL fun b hb => ⟨by omega, by omega, by omega, by omega⟩
         (try simp only [wk, wl, wx, reduceLT, reduceEqDiff, Nat.reduceBEq, reduceIte])
         refine wop_alloc ty35 ?_
         intro hLx bx nx fx
         (try simp only [wk, wl, wx, reduceLT, reduceEqDiff, Nat.reduceBEq, reduceIte])
         refine sat_store bx ty35 rfl (Nat.le_refl 2) (fault_one _) ?_
         intro hLy by' ny fy
         have by2 : Has hLy hL.next [i64 0, i64 0] := by'
         have Fy : Kept hL hLy := ⟨by omega, fun b hb => by rw [fy.same b (by omega), fx.same b hb]⟩
         (try simp only [wk, wl, wx, reduceLT, reduceEqDiff, Nat.reduceBEq, reduceIte])
         ((repeat refine WC.seq ?_); refine WC.run ?_)
         (try simp only [wk, wl, wx, reduceLT, reduceEqDiff, Nat.reduceBEq, reduceIte, fa35_1, Nat.zero_add, by2.at ty33 rfl, i64, bin_neq, ine_f rfl])
         (repeat refine WC.seq ?_)
         refine WC.cond (b := false) (by (try simp only [wk, wl, wx, reduceLT, reduceEqDiff, Nat.reduceBEq, reduceIte]); (try simp); (try omega)) (WC.skip ?_)
         (try simp only [wk, wl, wx, reduceLT, reduceEqDiff, Nat.reduceBEq, reduceIte])
         ((repeat refine WC.seq ?_); refine WC.run ?_)
         (try simp only [wk, wl, wx, reduceLT, reduceEqDiff, Nat.reduceBEq, reduceIte, bin_add])

         have bf9 := bf9.fix Fy (by omega)
         have a9 := a9.fix Fy fun b hb => by omega
         have b1h := b1h.fix Fy (by omega)
         have b2h := b2h.fix Fy (by omega)
         have bkL := bkL.fix Fy (by omega)
         have bsL := bsL.fix Fy (by omega)
         have bbL := bbL.fix Fy (by omega)
         have mdL : Mq hLy db (mv dV (D1 base os D)) := mdL.fix Fy (by omega)
         have msL : Mq hLy sb (mv i64 (S1 base os S)) := msL.fix Fy (by omega)
         have FLh : Kept h hLy := ⟨by omega, fun b hb => by rw [Fy.same b (by omega), FLh.same b hb]⟩
         have hb0 := bas.pos
         have hb1 := bas.most
         have hE1 : end1 os ≤ tabA os := by
          have h2 : end1 os ≤ end2 os := layE_ge
          have h3 := upN_le (end2 os)
          unfold tabA; omega
         have hT : tabA os ≤ 131072 := by unfold sizeL at hbig; omega
         have hupE := upN_le (end1 os)
         have z : Lsz os base A.length := ⟨hlo, bas, hne, fun sec i h1 h2 hi => by have := stO_le (os := os) h1 h2 (show i < os.length by omega); omega⟩
         have hA1 : ∀ p ∈ D1 base os D, 0 ≤ p.2.addr ∧ p.2.addr ≤ 2 ^ 40 := fun p hp => by
          obtain ⟨q, hq, rfl⟩ := List.mem_map.1 hp
          obtain ⟨g1, g2, g3, g4, g5⟩ := gD q hq
          have := stO_le (os := os) (sec := q.2.sym.sec.toNat) (i := q.2.obj) (by omega) (by omega) g1
          show 0 ≤ base + (stO os q.2.sym.sec.toNat q.2.obj : Nat) + q.2.sym.off ∧ base + (stO os q.2.sym.sec.toNat q.2.obj : Nat) + q.2.sym.off ≤ 2 ^ 40
          omega
         have mLk : LkM g hLy kb db sb stb ls A.length (A.map (·.2)) base (D1 base os D) (S1 base os S) (imV base bb (sizeL os S) (upN (end1 os) : Nat) 0 .nils .nils .nils) := ⟨bkL, by rw [hos]; exact bsL, mdL, msL, by omega, by omega, by omega, by omega⟩

         refine WC.loop ?_
         ((repeat refine WC.seq ?_); refine WC.run ?_)
         (try simp only [wk, wl, wx, reduceLT, reduceEqDiff, Nat.reduceBEq, reduceIte, w2])
         (repeat refine WC.seq ?_)
         refine WC.cond (b := true) (by (try simp only [wk, wl, wx, reduceLT, reduceEqDiff, Nat.reduceBEq, reduceIte]); (try simp); (try omega)) (WC.skip ?_)
         (try simp only [wk, wl, wx, reduceLT, reduceEqDiff, Nat.reduceBEq, reduceIte])
         (repeat refine WC.seq ?_)
         refine WC.block ?_
         ((repeat refine WC.seq ?_); refine WC.run ?_)
         (try simp only [wk, wl, wx, reduceLT, reduceEqDiff, Nat.reduceBEq, reduceIte, lf3, lB _ 3 bf9 (by decide)])
         ((repeat refine WC.seq ?_); refine WC.run ?_)
         (try simp only [wk, wl, wx, reduceLT, reduceEqDiff, Nat.reduceBEq, reduceIte])
         refine (lentry_ok (n0 := h.next) (by omega) a9 fA mLk (by rw [hos]; exact z) (by omega) (by omega) (by omega) (by omega) (by omega) hA1).mono fun v hN ⟨fN, mN⟩ => ?_
         rw [hos] at mN mLk
         have xN := fN.next
         have b1h := b1h.fix fN ⟨by omega, by omega⟩
         have b2h := b2h.fix fN ⟨by omega, by omega⟩
         have FNh : Kept h hN := ⟨by omega, fun b hb => by rw [fN.same b ⟨by omega, by omega⟩, FLh.same b hb]⟩
         cases hen : entP base (upN (end1 os) : Nat) (D1 base os D) 0 os with
         | error f =>
          rw [hen] at mN
          simp only at mN
          subst mN
          have hf2 : ¬ f.2 = 0 := by rw [entP_err hen]; decide
          have hPe : linkP os base = .error f := by rw [hP0, hC, hd]; simp only [hr]; rw [if_neg hbig]; simp only [hen]
          rw [hPe]
          (try simp only [wk, wl, wx, reduceLT, reduceEqDiff, Nat.reduceBEq, reduceIte])
          refine wop_alloc ty35 ?_
          intro hx bx nx fx
          (try simp only [wk, wl, wx, reduceLT, reduceEqDiff, Nat.reduceBEq, reduceIte])
          refine sat_store bx ty35 rfl (Nat.le_refl 2) (fault_one _) ?_
          intro hy by' ny fy
          have by2 : Has hy hN.next [i64 f.1, i64 f.2] := by'
          have ly : loadP (E g) hy 35 (.ptr hN.next 0) = some (.agg (faultV f)) := by'.agg ty35 rfl (Nat.le_refl 2)
          have Fy : Kept hN hy := ⟨by omega, fun b hb => by rw [fy.same b (by omega), fx.same b hb]⟩
          (try simp only [wk, wl, wx, reduceLT, reduceEqDiff, Nat.reduceBEq, reduceIte])
          ((repeat refine WC.seq ?_); refine WC.run ?_)
          (try simp only [wk, wl, wx, reduceLT, reduceEqDiff, Nat.reduceBEq, reduceIte, fa35_1, Nat.zero_add, by2.at ty33 rfl, i64, bin_neq, ine_t hf2])
          (repeat refine WC.seq ?_)
          refine WC.cond (b := true) (by (try simp only [wk, wl, wx, reduceLT, reduceEqDiff, Nat.reduceBEq, reduceIte]); (try simp); (try omega)) ?_
          (try simp only [wk, wl, wx, reduceLT, reduceEqDiff, Nat.reduceBEq, reduceIte])
          ((repeat refine WC.seq ?_); refine WC.draw (plans := pl10_20) (by kernel_rfl) ?_; simp only [pl10_20, List.mem_cons, List.not_mem_nil, or_false, forall_eq_or_imp, forall_eq])
          (try simp (maxSteps := 2000000) only [wk, wl, wx, reduceLT, reduceEqDiff, Nat.reduceBEq, reduceIte, wd, Chk, and_true, true_and, t4, t5, bld32_0, ly])
          refine sat_store (b1h.fix Fy (by omega)) ty32 rfl (Nat.le_refl 7) rfl ?_
          intro hc bc nc fc
          have lyc : loadP (E g) hc 35 (.ptr hN.next 0) = some (.agg (faultV f)) := (by'.fix fc (by omega)).agg ty35 rfl (Nat.le_refl 2)
          (try simp (maxSteps := 2000000) only [wk, wl, wx, reduceLT, reduceEqDiff, Nat.reduceBEq, reduceIte, wd, Chk, and_true, true_and, t4, t5, bld32_0, lyc])
          refine sat_store ((b2h.fix Fy (by omega)).fix fc (by omega)) ty35 rfl (Nat.le_refl 2) (fault_one _) ?_
          intro hd bd nd fd
          have l1 : loadP (E g) hd 32 (.ptr h.next 0) = some (.agg zImg) := (bc.fix fd (by omega)).agg ty32 rfl (Nat.le_refl 7)
          have l2 : loadP (E g) hd 35 (.ptr h1.next 0) = some (.agg (faultV f)) := bd.agg ty35 rfl (Nat.le_refl 2)
          have lyd : loadP (E g) hd 35 (.ptr hN.next 0) = some (.agg (faultV f)) := ((by'.fix fc (by omega)).fix fd (by omega)).agg ty35 rfl (Nat.le_refl 2)
          (try simp (maxSteps := 2000000) only [wk, wl, wx, reduceLT, reduceEqDiff, Nat.reduceBEq, reduceIte, wd, Chk, and_true, true_and, t4, t5, bld32_0, lyd])
          refine WC.ret ?_
          (try simp only [wk, wl, wx, reduceLT, reduceEqDiff, Nat.reduceBEq, reduceIte, t4, t5, l1, l2])
          exact ⟨⟨by omega, fun b hb => by rw [fd.same b (by omega), fc.same b (by omega), Fy.same b (by omega), FNh.same b hb]⟩, by trivial⟩
         | ok e =>
          rw [hen] at mN
          obtain ⟨e9, bkN⟩ := mN
          subst e9
          have a9 := a9.fix fN fun b hb => ⟨by omega, by omega⟩
          have mNk : LkM g hN kb db sb stb ls A.length os base (D1 base os D) (S1 base os S) (imV base bb (sizeL os S) (upN (end1 os) : Nat) e .nils .nils .nils) := ⟨bkN, mLk.bs.fix fN ⟨by omega, by omega⟩, mLk.md.fix fN ⟨by omega, by omega⟩, mLk.ms.fix fN ⟨by omega, by omega⟩, by omega, by omega, by omega, by omega⟩
          have bbN := bbL.fix fN ⟨by omega, by omega⟩
          (try simp only [wk, wl, wx, reduceLT, reduceEqDiff, Nat.reduceBEq, reduceIte])
          refine wop_alloc ty35 ?_
          intro hNx bx nx fx
          (try simp only [wk, wl, wx, reduceLT, reduceEqDiff, Nat.reduceBEq, reduceIte])
          refine sat_store bx ty35 rfl (Nat.le_refl 2) (fault_one _) ?_
          intro hNy by' ny fy
          have by2 : Has hNy hN.next [i64 0, i64 0] := by'
          have Fy : Kept hN hNy := ⟨by omega, fun b hb => by rw [fy.same b (by omega), fx.same b hb]⟩
          (try simp only [wk, wl, wx, reduceLT, reduceEqDiff, Nat.reduceBEq, reduceIte])
          ((repeat refine WC.seq ?_); refine WC.run ?_)
          (try simp only [wk, wl, wx, reduceLT, reduceEqDiff, Nat.reduceBEq, reduceIte, fa35_1, Nat.zero_add, by2.at ty33 rfl, i64, bin_neq, ine_f rfl])
          (repeat refine WC.seq ?_)
          refine WC.cond (b := false) (by (try simp only [wk, wl, wx, reduceLT, reduceEqDiff, Nat.reduceBEq, reduceIte]); (try simp); (try omega)) (WC.skip ?_)
          (try simp only [wk, wl, wx, reduceLT, reduceEqDiff, Nat.reduceBEq, reduceIte])
          ((repeat refine WC.seq ?_); refine WC.run ?_)
          (try simp only [wk, wl, wx, reduceLT, reduceEqDiff, Nat.reduceBEq, reduceIte, bin_add])

          have a9 := a9.fix Fy fun b hb => by omega
          have b1h := b1h.fix Fy (by omega)
          have b2h := b2h.fix Fy (by omega)
          have mNk := mNk.kept Fy
          have bbN := bbN.fix Fy (by omega)
          have FNh : Kept h hNy := ⟨by omega, fun b hb => by rw [Fy.same b (by omega), FNh.same b hb]⟩
          refine WC.loop ?_
          ((repeat refine WC.seq ?_); refine WC.run ?_)
          (try simp only [wk, wl, wx, reduceLT, reduceEqDiff, Nat.reduceBEq, reduceIte, w3])
          (repeat refine WC.seq ?_)
          refine WC.cond (b := false) (by (try simp only [wk, wl, wx, reduceLT, reduceEqDiff, Nat.reduceBEq, reduceIte]); (try simp); (try omega)) (WC.exit ?_)
          (try simp only [wk, wl, wx, reduceLT, reduceEqDiff, Nat.reduceBEq, reduceIte, nb3])
          ((repeat refine WC.seq ?_); refine WC.run ?_)
          (try simp only [wk, wl, wx, reduceLT, reduceEqDiff, Nat.reduceBEq, reduceIte])
          have hsl : sizeL os S ≤ 131072 := by omega
          have hlay : (layB os 0 os (List.replicate (sizeL os S) 0)).length = sizeL os S := layB_length (by unfold sizeL; omega) (by simp) (by simp)
          have hS1v : ∀ p ∈ S1 base os S, 0 ≤ p.2 ∧ p.2 ≤ 2 ^ 40 := fun p hp => by
           have hk : p.1 ∈ S.map (·.1) := by rw [← S1_keys (base := base) (os := os)]; exact List.mem_map.2 ⟨p, hp, rfl⟩
           obtain ⟨j, hj, e1⟩ := S1_at (base := base) (os := os) sn hk
           have e2 := mem_al (by rw [S1_keys]; exact sn) hp
           rw [e2] at e1
           injection e1 with e1
           omega
          have mNk' : LkM g hNy kb db sb stb ls A.length (A.map (·.2)) base (D1 base os D) (S1 base os S) (imV base bb (sizeL os S) (upN (end1 os) : Nat) e .nils .nils .nils) := by rw [hos]; exact mNk
          refine (relocate_ok (n0 := h.next) hg (by omega) a9 fA mNk' (by rw [hos]; exact z) (by omega) (by omega) (by omega) (by omega) (by omega) (by omega) (by omega) hA1 hS1v bbN hlay (by omega) (fun i hi r hr2 => ?_) (fun i hi s hs => ?_)).mono fun v hR ⟨fR, bbR⟩ => ?_
          ·have hmo : A[i].2 ∈ os := by rw [← hos]; exact List.mem_map.2 ⟨_, List.getElem_mem hi, rfl⟩
           have ro := (hok _ hmo).rels r hr2
           obtain ⟨r1, r2, r3, r4, r5, r6, r7, r8, _⟩ := ro
           have hoi : os[i]'(by omega) = A[i].2 := by subst hos; simp
           rw [hos]
           refine ⟨r1, r2, r3, ?_, r7, r8, by omega, by omega⟩
           have q1 := stO1_end (os := os) (i := i) (by omega)
           have q2 := stO2_end (os := os) (i := i) (by omega)
           rw [hoi] at q1 q2
           have : r.sec = 1 ∨ r.sec = 2 := by omega
           unfold sizeL
           rcases this with e | e
           ·rw [e] at r4 ⊢
            simp only [secLen] at r4
            show stO os 1 i + r.off.toNat + 4 ≤ _
            simp at r4
            omega
           ·rw [e] at r4 ⊢
            simp only [secLen] at r4
            show stO os 2 i + r.off.toNat + 4 ≤ _
            simp at r4
            omega
          ·have hmo : A[i].2 ∈ os := by rw [← hos]; exact List.mem_map.2 ⟨_, List.getElem_mem hi, rfl⟩
           have so := (hok _ hmo).syms s hs
           exact ⟨so.s0, so.s2, so.o0, (hok _ hmo).off hs⟩
          rw [hos] at bbR
          have xR := fR.next
          have a10 := a9.fix fR fun b hb => ⟨by omega, by omega⟩
          have b1h := b1h.fix fR ⟨by omega, by omega⟩
          have b2h := b2h.fix fR ⟨by omega, by omega⟩
          have mRk := mNk'.fix fR ⟨by omega, by omega⟩ ⟨by omega, by omega⟩ ⟨by omega, by omega⟩ ⟨by omega, by omega⟩
          have lR : (rlcL base os (D1 base os D) (S1 base os S) 0 os (layB os 0 os (List.replicate (sizeL os S) 0))).length = sizeL os S := by
           have := rlcL_length (base := base) (os := os) (D := D1 base os D) (S := S1 base os S) (N := sizeL os S) (r := os) (i := 0) (bs := layB os 0 os (List.replicate (sizeL os S) 0)) (by simp) hok (by unfold sizeL; omega) hlay
           exact this
          (try simp only [wk, wl, wx, reduceLT, reduceEqDiff, Nat.reduceBEq, reduceIte])
          ((repeat refine WC.seq ?_); refine WC.run ?_)
          (try simp only [wk, wl, wx, reduceLT, reduceEqDiff, Nat.reduceBEq, reduceIte])
          refine (finish_ok (n0 := h.next) (by omega) a10 (fun p hp => ?_) mRk (by rw [hos]; exact z) (by omega) (by omega) (by omega) (by omega) (by omega) (by omega) (by omega) (by omega) (by omega) (by omega) bbR lR (by omega) (by rw [D1_keys]; exact dn) (by simp only [D1, List.length_map]; omega) (fun p hp => ?_) (by rw [S1_keys]; exact sn) (by rw [S1_length]; omega) (fun p hp => ?_) (fun k hk => ?_)).mono fun v hF ⟨fF, ex, sl', nd, bkF, imF⟩ => ?_
          ·have hmo : p.2 ∈ os := by rw [← hos]; exact List.mem_map.2 ⟨_, hp, rfl⟩
           have := (hok _ hmo).nneed; omega
          ·obtain ⟨q, hq, rfl⟩ := List.mem_map.1 hp
           exact kD q hq
          ·have hk : p.1 ∈ S.map (·.1) := by rw [← S1_keys (base := base) (os := os)]; exact List.mem_map.2 ⟨p, hp, rfl⟩
           obtain ⟨q, hq, e1⟩ := List.mem_map.1 hk
           rw [← e1]; exact kS q hq
          ·have hk : k ∈ S.map (·.1) := by rw [← S1_keys (base := base) (os := os)]; exact (sortS_perm _).mem_iff.1 hk
           obtain ⟨j, hj, e1⟩ := S1_at (base := base) (os := os) sn hk
           refine ⟨tabA os + 8 * j, by rw [e1]; simp only [Option.getD_some]; omega, by unfold sizeL; omega⟩
          rw [hos] at imF
          have xF := fF.next
          have hPk : linkP os base = .ok ⟨base, finB base (slotsOf (D1 base os D) (S1 base os S) (sortS ((S1 base os S).map (·.1)))) (rlcL base os (D1 base os D) (S1 base os S) 0 os (layB os 0 os (List.replicate (sizeL os S) 0))), (upN (end1 os) : Nat), e, expsOf (D1 base os D) (sortS ((D1 base os D).map (·.1))), slotsOf (D1 base os D) (S1 base os S) (sortS ((S1 base os S).map (·.1))), needsOf os []⟩ := by rw [hP0, hC, hd]; simp only [hr]; rw [if_neg hbig]; simp only [hen]
          rw [hPk]
          generalize hX : (⟨base, finB base (slotsOf (D1 base os D) (S1 base os S) (sortS ((S1 base os S).map (·.1)))) (rlcL base os (D1 base os D) (S1 base os S) 0 os (layB os 0 os (List.replicate (sizeL os S) 0))), (upN (end1 os) : Nat), e, expsOf (D1 base os D) (sortS ((D1 base os D).map (·.1))), slotsOf (D1 base os D) (S1 base os S) (sortS ((S1 base os S).map (·.1))), needsOf os []⟩ : ImgD) = X at imF
          have b1h := b1h.fix fF ⟨by omega, by omega, by omega⟩
          have b2h := b2h.fix fF ⟨by omega, by omega, by omega⟩
          have lI : loadP (E g) hF 32 (.ptr kb 5) = some (.agg (imV base bb (sizeL os S) (upN (end1 os) : Nat) e ex sl' nd)) := by
           have := bkF.agg (E := E g) (o := 5) ty32 rfl (show 5 + 7 ≤ 12 by decide)
           exact this
          (try simp only [wk, wl, wx, reduceLT, reduceEqDiff, Nat.reduceBEq, reduceIte])
          ((repeat refine WC.seq ?_); refine WC.run ?_)
          (try simp only [wk, wl, wx, reduceLT, reduceEqDiff, Nat.reduceBEq, reduceIte, fa105_5, Nat.zero_add, lI, build35_0, t4, t5])
          have oI : (imV base bb (sizeL os S) (upN (end1 os) : Nat) e ex sl' nd).all V.one = true := by
           simp only [imV, List.all_cons, List.all_nil, (Sl.one imF.exps).2, (Sl.one imF.slots).2, (Sl.one imF.needs).2, Bool.and_true]; rfl
          refine sat_store b1h ty32 rfl (Nat.le_refl 7) oI ?_
          intro hG bG nG fG
          have bG : Has hG h.next (imV base bb (sizeL os S) (upN (end1 os) : Nat) e ex sl' nd) := bG
          (try simp only [wk, wl, wx, reduceLT, reduceEqDiff, Nat.reduceBEq, reduceIte, fa105_5, Nat.zero_add, lI, build35_0, t4, t5])
          refine sat_store (b2h.fix fG (by omega)) ty35 rfl (Nat.le_refl 2) (fault_one _) ?_
          intro hZ bZ nZ fZ
          have l1 : loadP (E g) hZ 32 (.ptr h.next 0) = some (.agg (imV base bb (sizeL os S) (upN (end1 os) : Nat) e ex sl' nd)) := (bG.fix fZ (by omega)).agg ty32 rfl (Nat.le_refl 7)
          have l2 : loadP (E g) hZ 35 (.ptr h1.next 0) = some (.agg (faultV (0, 0))) := bZ.agg ty35 rfl (Nat.le_refl 2)
          (try simp only [wk, wl, wx, reduceLT, reduceEqDiff, Nat.reduceBEq, reduceIte])
          refine WC.ret ?_
          (try simp only [wk, wl, wx, reduceLT, reduceEqDiff, Nat.reduceBEq, reduceIte, t4, t5, l1, l2])
          refine ⟨⟨by omega, fun b hb => by rw [fZ.same b (by omega), fG.same b (by omega), fF.same b ⟨by omega, by omega, by omega⟩, fR.same b ⟨by omega, by omega⟩, FNh.same b hb]⟩, ⟨.slice bb 0 (sizeL os S) (.lit (sizeL os S)), ex, sl', nd⟩, ?_, ?_⟩
          ·rw [← hX]; rfl
          ·exact (imF.fix (K' := fun b => b ≠ h.next ∧ b ≠ h1.next) ⟨by omega, fun b hb => by rw [fZ.same b hb.2, fG.same b hb.1]⟩ fun b hb => ⟨by omega, by omega⟩).up fun b hb => ⟨by omega, by omega⟩
    all_goals (try simp only [wk, wl, wx, reduceLT, reduceEqDiff, Nat.reduceBEq, reduceIte])
    all_goals (first | done | rfl | trivial | simp)
end Go.Proofs.OP
