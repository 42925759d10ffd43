/- Programs in memory: an image more; what Load does, as a plain law. -/
import Derived.Test.YtloblhhnlaaajaaDoorV15
import Derived.Test.YtloblhhnlaaajaaDoorV33
set_option linter.unusedVariables false
set_option linter.unusedSimpArgs false
set_option linter.defProp false
set_option linter.unusedSimpArgs false
namespace Go.Proofs.OP
open Go Go.Ev
open Go.Proofs
open Nat (reduceLT reduceEqDiff)
variable {g : T (List V)}

def blkOf : V → Option Nat
 | .slice b _ _ _ => some b
 | _ => none
section
variable {h h' : H} {lo hi pb sb : Nat} {sc : Cp} {tag : Nat → Nat} {cs : List Ic} {xs : List ImgD}
theorem PM.up (a : PM g h lo hi pb sb sc tag cs xs) {hi' : Nat} (h1 : hi ≤ hi') (h2 : hi' ≤ h.next) : PM g h lo hi' pb sb sc tag cs xs :=
 ⟨a.len, a.pos, a.has, ⟨a.pbt.1, Nat.lt_of_lt_of_le a.pbt.2.1 h1, a.pbt.2.2⟩, ⟨a.sbt.1, Nat.lt_of_lt_of_le a.sbt.2.1 h1, a.sbt.2.2⟩, a.scw, h2, a.blk, fun i c x q1 q2 => by
  have m := a.im i c x q1 q2
  exact ⟨m.im.up fun b hb => by omega, m.bw, m.sw, m.bt, m.st, m.et, m.nt⟩⟩
theorem PM.fixT (a : PM g h lo hi pb sb sc tag cs xs) {T : Nat} (hT : 2 * xs.length + 5 ≤ T) (f : Fix (fun b => b < hi ∧ tag b ≠ T) h h') : PM g h' lo hi pb sb sc tag cs xs := by
 have p1 := a.pbt
 have p2 := a.sbt
 refine ⟨a.len, a.pos, a.has.fix f ⟨p1.2.1, by omega⟩, p1, p2, a.scw, Nat.le_trans a.his f.next, a.blk.fix f ⟨p2.2.1, by omega⟩, fun i c x q1 q2 => ?_⟩
 have m := a.im i c x q1 q2
 obtain ⟨hix, _⟩ := List.getElem?_eq_some_iff.1 q2
 exact ⟨⟨Sl.fix m.im.bytes (K := fun b => b < hi ∧ tag b ≠ T) (fun b o n k e => ⟨m.im.inB _ _ _ _ e, by have := (m.bt _ _ _ _ e).2; omega⟩) f,
  Sl.fix m.im.exps (K := fun b => b < hi ∧ tag b ≠ T) (fun b o n k e => ⟨m.im.inX _ _ _ _ e, by have := m.et _ _ _ _ e; omega⟩) f,
  Sl.fix m.im.slots (K := fun b => b < hi ∧ tag b ≠ T) (fun b o n k e => ⟨m.im.inS _ _ _ _ e, by have := (m.st _ _ _ _ e).2; omega⟩) f,
  Sl.fix m.im.needs (K := fun b => b < hi ∧ tag b ≠ T) (fun b o n k e => ⟨m.im.inN _ _ _ _ e, by have := m.nt _ _ _ _ e; omega⟩) f,
  m.im.inB, m.im.inX, m.im.inS, m.im.inN⟩, m.bw, m.sw, m.bt, m.st, m.et, m.nt⟩
theorem imgCells_snoc {c : Ic} {x : ImgD} : ∀ {cs : List Ic} {xs : List ImgD}, cs.length = xs.length → imgCells (cs ++ [c]) (xs ++ [x]) = imgCells cs xs ++ c.cells x
 | [], [], _ => by simp [imgCells]
 | [], _ :: _, h => by simp at h
 | _ :: _, [], h => by simp at h
 | d :: cs, y :: xs, h => by
  have ih := imgCells_snoc (c := c) (x := x) (cs := cs) (xs := xs) (by simpa using h)
  unfold imgCells at *
  simp only [List.cons_append, List.zip_cons_cons, List.flatMap_cons, ih, List.append_assoc]
theorem PM.add {sb' : Nat} {sc' : Cp} {tag' : Nat → Nat} {c : Ic} {x : ImgD} (a : PM g h lo hi pb sb sc tag cs xs) {T : Nat} (hT : 2 * xs.length + 5 ≤ T)
  (f : Fix (fun b => b < hi ∧ tag b ≠ 1 ∧ tag b ≠ 2 ∧ tag b ≠ T) h h') (htag : ∀ b, b < hi → tag' b = tag b)
  (has' : Has h' pb [.slice sb' 0 (xs.length + 1) sc']) (scw' : sc' = .lit (xs.length + 1) ∨ sc' = .opn 0 0) (blk' : At h' sb' 0 (imgCells cs xs ++ c.cells x)) (sbt' : lo ≤ sb' ∧ sb' < h'.next ∧ tag' sb' = 2)
  (new : IM g h' lo h'.next tag' xs.length c x) : PM g h' lo h'.next pb sb' sc' tag' (cs ++ [c]) (xs ++ [x]) := by
 have p1 := a.pbt
 have hh := a.his
 have fx := f.next
 have hl := a.len
 refine ⟨by simp [hl], by simp, by simpa using has', ⟨p1.1, by omega, by rw [htag _ p1.2.1]; exact p1.2.2⟩, sbt', by simpa using scw', Nat.le_refl _, by rw [imgCells_snoc hl]; exact blk', fun i d y q1 q2 => ?_⟩
 by_cases hi1 : i < xs.length
 ·rw [List.getElem?_append_left (by omega)] at q1 q2
  have m := a.im i d y q1 q2
  have t1 : In (fun b => b < hi ∧ tag b ≠ 1 ∧ tag b ≠ 2 ∧ tag b ≠ T) d.bytes := fun b o n k e => by have := (m.bt _ _ _ _ e).2; exact ⟨m.im.inB _ _ _ _ e, by omega, by omega, by omega⟩
  have t2 : In (fun b => b < hi ∧ tag b ≠ 1 ∧ tag b ≠ 2 ∧ tag b ≠ T) d.exps := fun b o n k e => by have := m.et _ _ _ _ e; exact ⟨m.im.inX _ _ _ _ e, by omega, by omega, by omega⟩
  have t3 : In (fun b => b < hi ∧ tag b ≠ 1 ∧ tag b ≠ 2 ∧ tag b ≠ T) d.slots := fun b o n k e => by have := (m.st _ _ _ _ e).2; exact ⟨m.im.inS _ _ _ _ e, by omega, by omega, by omega⟩
  have t4 : In (fun b => b < hi ∧ tag b ≠ 1 ∧ tag b ≠ 2 ∧ tag b ≠ T) d.needs := fun b o n k e => by have := m.nt _ _ _ _ e; exact ⟨m.im.inN _ _ _ _ e, by omega, by omega, by omega⟩
  exact ⟨⟨Sl.fix m.im.bytes t1 f, Sl.fix m.im.exps t2 f, Sl.fix m.im.slots t3 f, Sl.fix m.im.needs t4 f, m.im.inB.sub fun b hb => by omega, m.im.inX.sub fun b hb => by omega, m.im.inS.sub fun b hb => by omega, m.im.inN.sub fun b hb => by omega⟩, m.bw, m.sw,
   fun b o n k e => by
    have q := htag _ (t1 _ _ _ _ e).1
    have q2 := m.bt _ _ _ _ e
    exact ⟨q2.1, q.trans q2.2⟩, fun b o n k e => by
    have q := htag _ (t3 _ _ _ _ e).1
    have q2 := m.st _ _ _ _ e
    exact ⟨q2.1, q.trans q2.2⟩,
   fun b o n k e => (htag _ (t2 _ _ _ _ e).1).trans (m.et _ _ _ _ e), fun b o n k e => (htag _ (t4 _ _ _ _ e).1).trans (m.nt _ _ _ _ e)⟩
 ·have hi2 : i = xs.length := by
   obtain ⟨q, _⟩ := List.getElem?_eq_some_iff.1 q2
   simp at q; omega
  subst hi2
  rw [List.getElem?_append_right (by omega), hl, Nat.sub_self] at q1
  rw [List.getElem?_append_right (Nat.le_refl _), Nat.sub_self] at q2
  injection q1 with q1
  injection q2 with q2
  subst q1 q2
  exact new
theorem PM.rcs (a : PM g h lo hi pb sb sc tag cs xs) : Rcs (E g) h 7 (fun p : Ic × ImgD => p.1.cells p.2) (.slice sb 0 xs.length sc) (cs.zip xs) := by
 have e : (cs.zip xs).length = xs.length := by rw [List.length_zip, a.len, Nat.min_self]
 show Sl (E g) h 7 _ (cs.zip xs).length _
 rw [e]; exact a.sl
theorem PM.zip (a : PM g h lo hi pb sb sc tag cs xs) {p : Ic × ImgD} (hp : p ∈ cs.zip xs) : Im g h (· < hi) p.1 p.2 ∧ p.2 ∈ xs := by
 obtain ⟨i, hi', rfl⟩ := List.getElem_of_mem hp
 rw [List.length_zip] at hi'
 have q1 : cs[i]? = some cs[i] := List.getElem?_eq_getElem (by omega)
 have q2 : xs[i]? = some xs[i] := List.getElem?_eq_getElem (by omega)
 rw [List.getElem_zip]
 exact ⟨(a.im i _ _ q1 q2).im, List.getElem_mem (by omega)⟩
end
theorem zip_any {P : ImgD → Bool} : ∀ {cs : List Ic} {xs : List ImgD}, cs.length = xs.length → (cs.zip xs).any (fun p => P p.2) = xs.any P
 | [], [], _ => rfl
 | [], _ :: _, h => by simp at h
 | _ :: _, [], h => by simp at h
 | c :: cs, x :: xs, h => by
  simp only [List.zip_cons_cons, List.any_cons, zip_any (cs := cs) (xs := xs) (by simpa using h)]

abbrev LSt := List Int × List ImgD
def needF (names : List (List UInt8)) (libs : List ImgD) (cur : Int) : List (List UInt8) → LSt → LSt × Int × Int
 | [], st => (st, 0, 0)
 | s :: r, st => match fstI (fun x => s == x) names with
  | none => (st, cur, 22)
  | some k => if st.1.contains (k : Int) = true then needF names libs cur r st else match libs[k]? with
   | none => (st, 0, 0)
   | some y => if st.2.any (fun x => ovl x y) = true then (st, (k : Int), 10) else needF names libs cur r (st.1 ++ [(k : Int)], st.2 ++ [y])
def loadF (names : List (List UInt8)) (libs : List ImgD) : Nat → Nat → LSt → LSt × Int × Int
 | 0, _, st => (st, 0, 0)
 | f + 1, i, st => match st.2[i]?, st.1[i]? with
  | some x, some a => if (needF names libs a x.needs st).2.2 ≠ 0 then needF names libs a x.needs st else loadF names libs f (i + 1) (needF names libs a x.needs st).1
  | _, _ => (st, 0, 0)
def loadR (first : ImgD) (libs : List ImgD) (names : List (List UInt8)) : LSt × Int × Int := loadF names libs 60 0 ([-1], [first])
def ldP (first : ImgD) (libs : List ImgD) (names : List (List UInt8)) : Option (List ImgD) × Int × Int :=
 if (givenF first libs names).2 ≠ 0 then (none, givenF first libs names) else if (loadR first libs names).2.2 ≠ 0 then (none, (loadR first libs names).2) else (some (loadR first libs names).1.2, 0, 0)
structure LInv (libs : List ImgD) (st : LSt) : Prop where
 len : st.1.length = st.2.length
 nod : st.1.Nodup
 rng : ∀ a ∈ st.1, a = -1 ∨ ∃ k : Nat, k < libs.length ∧ a = (k : Int)
 good : Good st.2
theorem nodup_le : ∀ (n : Nat) (L : List Nat), L.Nodup → (∀ x ∈ L, x < n) → L.length ≤ n
 | 0, L, _, h => by
  cases L with
  | nil => simp
  | cons x r => exact absurd (h x (List.mem_cons_self ..)) (Nat.not_lt_zero _)
 | n + 1, L, hn, h => by
  have h1 := nodup_le n (L.filter (· ≠ n)) (hn.sublist List.filter_sublist) fun x hx => by
   have := List.mem_filter.1 hx
   have h2 := h x this.1
   have h3 : x ≠ n := by simpa using this.2
   omega
  have h2 : L.length ≤ (L.filter (· ≠ n)).length + 1 := by
   clear h1 h
   induction L with
   | nil => simp
   | cons y r ih =>
    have hr := (List.nodup_cons.1 hn)
    by_cases hy : y = n
    ·subst hy
     have e : (y :: r).filter (· ≠ y) = r := by
      rw [List.filter_cons_of_neg (by simp)]
      exact List.filter_eq_self.2 fun z hz => by
       have : z ≠ y := fun q => hr.1 (q ▸ hz)
       simpa using this
     rw [e]; simp
    ·rw [List.filter_cons_of_pos (by simpa using hy)]
     have := ih hr.2
     simp only [List.length_cons]; omega
  omega
theorem LInv.bound {libs : List ImgD} {st : LSt} (i : LInv libs st) : st.2.length ≤ libs.length + 1 := by
 have h := nodup_le (libs.length + 1) (st.1.map fun a => (a + 1).toNat) (by
  have : ∀ (L : List Int), L.Nodup → (∀ a ∈ L, -1 ≤ a) → (L.map fun a => (a + 1).toNat).Nodup := fun L => by
   induction L with
   | nil => intro _ _; simp
   | cons x r ih =>
    intro hn hl
    obtain ⟨h1, h2⟩ := List.nodup_cons.1 hn
    rw [List.map_cons, List.nodup_cons]
    refine ⟨fun hm => ?_, ih h2 fun a ha => hl a (List.mem_cons_of_mem _ ha)⟩
    obtain ⟨y, hy, e⟩ := List.mem_map.1 hm
    have q1 := hl x (List.mem_cons_self ..)
    have q2 := hl y (List.mem_cons_of_mem _ hy)
    have : y = x := by omega
    exact h1 (this ▸ hy)
  refine this st.1 i.nod fun a ha => ?_
  rcases i.rng a ha with rfl | ⟨k, _, rfl⟩
  ·exact Int.le_refl _
  ·omega) fun x hx => by
   obtain ⟨a, ha, rfl⟩ := List.mem_map.1 hx
   rcases i.rng a ha with rfl | ⟨k, hk, rfl⟩
   ·simp
   ·omega
 rw [List.length_map, i.len] at h
 exact h
theorem LInv.snoc {libs : List ImgD} {st : LSt} (i : LInv libs st) (hl : Good libs) {k : Nat} {y : ImgD} (hk : libs[k]? = some y) (hn : st.1.contains (k : Int) = false) : LInv libs (st.1 ++ [(k : Int)], st.2 ++ [y]) := by
 obtain ⟨hk1, _⟩ := List.getElem?_eq_some_iff.1 hk
 refine ⟨by simp [i.len], ?_, fun a ha => ?_, fun x hx => ?_⟩
 ·rw [List.nodup_append]
  refine ⟨i.nod, by simp, fun a ha b hb e => ?_⟩
  rw [List.mem_singleton] at hb
  subst hb; subst e
  have : st.1.contains (k : Int) = true := List.contains_iff_mem.2 ha
  rw [hn] at this; cases this
 ·rcases List.mem_append.1 ha with q | q
  ·exact i.rng a q
  ·rw [List.mem_singleton] at q; exact .inr ⟨k, hk1, q⟩
 ·rcases List.mem_append.1 hx with q | q
  ·exact i.good x q
  ·rw [List.mem_singleton] at q; subst q; exact hl _ (List.mem_of_getElem? hk)
theorem needF_inv {names : List (List UInt8)} {libs : List ImgD} {cur : Int} (hl : Good libs) : ∀ {N : List (List UInt8)} {st : LSt}, LInv libs st → LInv libs (needF names libs cur N st).1
 | [], st, i => i
 | s :: r, st, i => by
  rw [needF]
  split
  ·exact i
  ·rename_i k hk
   split
   ·exact needF_inv hl i
   ·rename_i hc
    split
    ·exact i
    ·rename_i y hy
     split
     ·exact i
     ·exact needF_inv hl (i.snoc hl hy (by simpa using hc))
theorem loadF_inv {names : List (List UInt8)} {libs : List ImgD} (hl : Good libs) : ∀ {f i : Nat} {st : LSt}, LInv libs st → LInv libs (loadF names libs f i st).1
 | 0, i, st, h => h
 | f + 1, i, st, h => by
  rw [loadF]
  split
  ·split
   ·exact needF_inv hl h
   ·exact loadF_inv hl (needF_inv hl h)
  ·exact h
theorem givenF_good {first : ImgD} {libs : List ImgD} {names : List (List UInt8)} (h : (givenF first libs names).2 = 0) : libs.length ≤ 50 ∧ names.length = libs.length ∧ SmallI first ∧ Good libs ∧ namesF [] names = givenF first libs names := by
 unfold givenF at h ⊢
 split at h
 ·cases h
 ·rename_i h1
  split at h
  ·cases h
  ·rename_i h2
   split at h
   ·cases h
   ·rename_i h3
    split at h
    ·cases h
    ·rename_i h4
     refine ⟨by omega, by simpa using h2, smallI_of (by simpa using h3), fun x hx => ?_, ?_⟩
     ·refine smallI_of ?_
      cases hr : rightB x with
      | true => rfl
      | false =>
       exfalso
       have : libs.any (fun x => !rightB x) = true := List.any_eq_true.2 ⟨x, hx, by rw [hr]; rfl⟩
       rw [← idxI_nonneg, idxI, h4] at this
       cases this
     ·rw [if_neg h1, if_neg h2, if_neg h3]
theorem linv0 {first : ImgD} {libs : List ImgD} (h : SmallI first) : LInv libs ([-1], [first]) :=
 ⟨rfl, by simp, fun a ha => .inl (by simpa using ha), fun x hx => by rw [List.mem_singleton] at hx; subst hx; exact h⟩
theorem needF_step {names : List (List UInt8)} {libs : List ImgD} {cur : Int} {N : List (List UInt8)} {j : Nat} (hj : j < N.length) (st : LSt) : needF names libs cur (N.drop j) st = match fstI (fun x => N[j] == x) names with
  | none => (st, cur, 22)
  | some k => if st.1.contains (k : Int) = true then needF names libs cur (N.drop (j + 1)) st else match libs[k]? with
   | none => (st, 0, 0)
   | some y => if st.2.any (fun x => ovl x y) = true then (st, (k : Int), 10) else needF names libs cur (N.drop (j + 1)) (st.1 ++ [(k : Int)], st.2 ++ [y]) := by
 rw [List.drop_eq_getElem_cons hj, needF]
end Go.Proofs.OP
