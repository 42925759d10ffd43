/- Walks: the reference's Call; Bytes, Images, Entry of both sides. -/
import Derived.Test.YtloblhhnlaaajaaGreatDoorV15
import Derived.Test.YtloblhhnlaaajaaGreatDoorV32
import Derived.Test.YtloblhhnlaaajaaGreatDoorV17
set_option linter.unusedVariables false
set_option linter.unusedSimpArgs false
set_option linter.defProp false
set_option linter.unusedSimpArgs false
namespace Go.Proofs.OP
open Go Go.Ev
open Go.Proofs
open Nat (reduceLT reduceEqDiff)
variable {g : T (List V)}

set_option maxRecDepth 100000 in
set_option maxHeartbeats 4000000 in
theorem rcall_ok {h : H} {lo hi pb sb : Nat} {sc : Cp} {tag : Nat → Nat} {cs : List Ic} {xs : List ImgD} {n : Int} {nm : List UInt8} (a : PM g h lo hi pb sb sc tag cs xs) (hx : xs.length < 2 ^ 40) (hg : Good xs) :
  WF (E g) 28 [.ptr pb 0, .int .i64 n, .str nm] h fun v h' => v = callV (callP xs n nm).2 ∧ PM g h' lo hi pb sb sc tag cs (callP xs n nm).1 ∧ Rest lo hi h h' := by
 have hh := a.his
 have l0 : loadP (E g) h 65 (.ptr pb 0) = some (.slice sb 0 xs.length sc) := a.has.at ty65 rfl 0
 refine WF.enter fn28 rfl ?_
 ((repeat refine WC.seq ?_); refine WC.run ?_)
 (try simp only [wk, wl, wx, reduceLT, reduceEqDiff, Nat.reduceBEq, reduceIte])
 ((repeat refine WC.seq ?_); refine WC.run ?_)
 by_cases hn : 0 ≤ n ∧ n < xs.length
 ·obtain ⟨i, rfl⟩ : ∃ i : Nat, n = (i : Int) := ⟨n.toNat, by omega⟩
  have hlt : i < xs.length := by omega
  obtain ⟨c, hc⟩ := a.ic hlt
  have hxi : xs[i]? = some xs[i] := List.getElem?_eq_getElem hlt
  have mi := a.im i c xs[i] hc hxi
  have ac := a.cell hc hxi
  have sm := hg.at hxi
  have ssl := sm.slots
  (try simp only [wk, wl, wx, reduceLT, reduceEqDiff, Nat.reduceBEq, reduceIte, decide_eq_false (show ¬ ((i : Int) < 0) by omega), un, fa149_0, Nat.zero_add, l0, Sl.lenB a.sl ty65 rfl])
  (repeat refine WC.seq ?_)
  refine WC.cond (b := false) (by (try simp only [wk, wl, wx, reduceLT, reduceEqDiff, Nat.reduceBEq, reduceIte]); (try simp); (try omega)) (WC.skip ?_)
  (try simp only [wk, wl, wx, reduceLT, reduceEqDiff, Nat.reduceBEq, reduceIte])
  ((repeat refine WC.seq ?_); refine WC.run ?_)
  (try simp only [wk, wl, wx, reduceLT, reduceEqDiff, Nat.reduceBEq, reduceIte, fa149_0, Nat.zero_add, l0, idx_slice ty65 rfl ty50 hlt, fa50_5, ac.at ty48 rfl (j := 5) (by simp), Sl.lenB mi.im.slots ty48 rfl])
  (repeat refine WC.seq ?_)
  refine WC.block ?_
  refine WC.while (fun m fr hq => ∃ ts j, fr = ⟨ts, 65, [], 28, none⟩ ∧ Kept h hq ∧ m = xs[i].slots.length - j ∧ j ≤ xs[i].slots.length ∧ ts.get 0 = some (.ptr pb 0) ∧ ts.get 1 = some (.int .i64 i) ∧ ts.get 2 = some (.str nm) ∧ ts.get 32 = some c.slots ∧ ts.get 33 = some (.int .i64 xs[i].slots.length) ∧ ts.get 34 = some (.int .i64 j) ∧ ∀ q (hq : q < xs[i].slots.length), q < j → (xs[i].slots[q].name == nm) = false) ?_ ⟨_, 0, rfl, Fix.refl _ _, rfl, by omega, ?_, ?_, ?_, ?_, ?_, ?_, fun j hj hji => absurd hji (Nat.not_lt_zero _)⟩
  ·rintro m fr hq ⟨ts, j, rfl, ff, rfl, hj, t0, t1, t2, t32, t33, t34, hno⟩
   have xq := ff.next
   have aq := a.kept ff
   have miq := aq.im i c xs[i] hc hxi
   ((repeat refine WC.seq ?_); refine WC.run ?_)
   (try simp only [wk, wl, wx, reduceLT, reduceEqDiff, Nat.reduceBEq, reduceIte, t33, t34])
   (repeat refine WC.seq ?_)
   by_cases hjt : j < xs[i].slots.length
   ·refine WC.cond (b := true) (by (try simp only [wk, wl, wx, reduceLT, reduceEqDiff, Nat.reduceBEq, reduceIte]); (try simp); (try omega)) (WC.skip ?_)
    (try simp only [wk, wl, wx, reduceLT, reduceEqDiff, Nat.reduceBEq, reduceIte])
    have hgs : xs[i].slots[j]? = some xs[i].slots[j] := List.getElem?_eq_getElem hjt
    obtain ⟨p, p1, p2⟩ := miq.im.slots.at slotV_length ty48 rfl ty136 rfl (by decide) rfl hjt
    have p2 := p2 hq fun _ _ _ _ _ => rfl
    (repeat refine WC.seq ?_)
    refine WC.block ?_
    ((repeat refine WC.seq ?_); refine WC.run ?_)
    (try simp only [wk, wl, wx, reduceLT, reduceEqDiff, Nat.reduceBEq, reduceIte, t32, t34, p1, p2])
    refine wop_alloc ty136 ?_
    intro k5 b5 m5 g5
    (try simp only [wk, wl, wx, reduceLT, reduceEqDiff, Nat.reduceBEq, reduceIte])
    refine sat_store b5 ty136 rfl (by decide) rfl ?_
    intro k6 b6 m6 g6
    have b6 : Has k6 hq.next [.str xs[i].slots[j].name, i64 xs[i].slots[j].addr, i64 xs[i].slots[j].bound] := b6
    have F6 : Kept h k6 := ⟨by omega, fun b hb => by rw [g6.same b (by omega), g5.same b (by omega), ff.same b hb]⟩
    have a6 := a.kept F6
    (try simp only [wk, wl, wx, reduceLT, reduceEqDiff, Nat.reduceBEq, reduceIte])
    ((repeat refine WC.seq ?_); refine WC.run ?_)
    (try simp only [wk, wl, wx, reduceLT, reduceEqDiff, Nat.reduceBEq, reduceIte, t2, fa136_0, Nat.zero_add, b6.at ty9 rfl, bin_sneq])
    (repeat refine WC.seq ?_)
    cases hnm : xs[i].slots[j].name == nm with
    | false =>
     refine WC.cond (b := true) (by (try simp only [wk, wl, wx, reduceLT, reduceEqDiff, Nat.reduceBEq, reduceIte, hnm]); (try simp); (try omega)) ?_
     (try simp only [wk, wl, wx, reduceLT, reduceEqDiff, Nat.reduceBEq, reduceIte])
     refine WC.exit ?_
     (try simp only [wk, wl, wx, reduceLT, reduceEqDiff, Nat.reduceBEq, reduceIte, show Nat.beq 1 1 = true from rfl])
     ((repeat refine WC.seq ?_); refine WC.run ?_)
     (try simp only [wk, wl, wx, reduceLT, reduceEqDiff, Nat.reduceBEq, reduceIte, t34, bin_add])
     refine ⟨_, ?_, _, j + 1, rfl, F6, rfl, by omega, ?_⟩
     ·omega
     (try simp only [wk, wl, wx, reduceLT, reduceEqDiff, Nat.reduceBEq, reduceIte, t0, t1, t2, t32, t33])
     refine ⟨trivial, trivial, trivial, trivial, trivial, ?_, fun q hq' hqj => ?_⟩
     ·rw [wrap64 (by omega) (by omega)]; rfl
     ·rcases Nat.lt_succ_iff_lt_or_eq.1 hqj with r | rfl
      ·exact hno q hq' r
      ·exact hnm
    | true =>
     have hf : fstI (fun s => s.name == nm) xs[i].slots = some j := fstI_at hjt hno hnm
     have hnm' : xs[i].slots[j].name = nm := by simpa using hnm
     refine WC.cond (b := false) (by (try simp only [wk, wl, wx, reduceLT, reduceEqDiff, Nat.reduceBEq, reduceIte, hnm]); (try simp); (try omega)) (WC.skip ?_)
     (try simp only [wk, wl, wx, reduceLT, reduceEqDiff, Nat.reduceBEq, reduceIte])
     ((repeat refine WC.seq ?_); refine WC.run ?_)
     (try simp only [wk, wl, wx, reduceLT, reduceEqDiff, Nat.reduceBEq, reduceIte, fa136_2, Nat.zero_add, b6.at ty2 rfl, i64])
     (repeat refine WC.seq ?_)
     by_cases hb : xs[i].slots[j].bound = 0
     ·refine WC.cond (b := false) (by (try simp only [wk, wl, wx, reduceLT, reduceEqDiff, Nat.reduceBEq, reduceIte, hb]); (try simp); (try omega)) (WC.skip ?_)
      (try simp only [wk, wl, wx, reduceLT, reduceEqDiff, Nat.reduceBEq, reduceIte])
      ((repeat refine WC.seq ?_); refine WC.run ?_)
      (try simp only [wk, wl, wx, reduceLT, reduceEqDiff, Nat.reduceBEq, reduceIte, t0, t2])
      refine (rlookup_ok (nm := nm) a6 hx hg.exps).mono fun v h4 ⟨e4, f4⟩ => ?_
      subst e4
      have x4 := f4.next
      have a4 := a6.kept f4
      have F4 : Kept h h4 := F6.trans (f4.sub fun b hb => by omega)
      (try simp only [wk, wl, wx, reduceLT, reduceEqDiff, Nat.reduceBEq, reduceIte, lookV, i64])
      ((repeat refine WC.seq ?_); refine WC.run ?_)
      (try simp only [wk, wl, wx, reduceLT, reduceEqDiff, Nat.reduceBEq, reduceIte])
      (repeat refine WC.seq ?_)
      by_cases hl : (lookP nm 0 xs).2.2 = 0
      ·refine WC.cond (b := false) (by (try simp only [wk, wl, wx, reduceLT, reduceEqDiff, Nat.reduceBEq, reduceIte, hl]); (try simp); (try omega)) (WC.skip ?_)
       (try simp only [wk, wl, wx, reduceLT, reduceEqDiff, Nat.reduceBEq, reduceIte])
       ((repeat refine WC.seq ?_); refine WC.run ?_)
       (try simp only [wk, wl, wx, reduceLT, reduceEqDiff, Nat.reduceBEq, reduceIte, t0, t1, t34])
       refine (rbind_ok a4 hc hxi hjt (hg.room hxi hjt)).mono fun v h5 ⟨a5, f5⟩ => ?_
       have x5 := f5.next
       (try simp only [wk, wl, wx, reduceLT, reduceEqDiff, Nat.reduceBEq, reduceIte])
       ((repeat refine WC.seq ?_); refine WC.run ?_)
       (try simp only [wk, wl, wx, reduceLT, reduceEqDiff, Nat.reduceBEq, reduceIte])
       refine WC.ret ?_
       (try simp only [wk, wl, wx, reduceLT, reduceEqDiff, Nat.reduceBEq, reduceIte])
       have hcp : callP xs (i : Int) nm = (setB xs i j (lookP nm 0 xs).1, (lookP nm 0 xs).1, true, 0) := by
        unfold callP; rw [if_pos hn]; simp only [Int.toNat_natCast, hxi, hf, hgs]
        rw [if_neg (by simp [hb]), if_neg (by simp [hl])]
       rw [hcp]
       exact ⟨by trivial, a5, ⟨by omega, fun b hb => by rw [f5.same b ⟨by omega, hb.2⟩, F4.same b hb.1]⟩⟩
      ·refine WC.cond (b := true) (by (try simp only [wk, wl, wx, reduceLT, reduceEqDiff, Nat.reduceBEq, reduceIte, hl]); (try simp); (try omega)) ?_
       ((repeat refine WC.seq ?_); refine WC.run ?_)
       (try simp only [wk, wl, wx, reduceLT, reduceEqDiff, Nat.reduceBEq, reduceIte])
       refine WC.ret ?_
       (try simp only [wk, wl, wx, reduceLT, reduceEqDiff, Nat.reduceBEq, reduceIte])
       have hcp : callP xs (i : Int) nm = (xs, 0, false, (lookP nm 0 xs).2.2) := by
        unfold callP; rw [if_pos hn]; simp only [Int.toNat_natCast, hxi, hf, hgs]
        rw [if_neg (by simp [hb]), if_pos hl]
       rw [hcp]
       exact ⟨by trivial, a4, F4.sub fun b hb => hb.1⟩
     ·refine WC.cond (b := true) (by (try simp only [wk, wl, wx, reduceLT, reduceEqDiff, Nat.reduceBEq, reduceIte, hb]); (try simp); (try omega)) ?_
      ((repeat refine WC.seq ?_); refine WC.run ?_)
      (try simp only [wk, wl, wx, reduceLT, reduceEqDiff, Nat.reduceBEq, reduceIte, fa136_2, Nat.zero_add, b6.at ty2 rfl, i64])
      refine WC.ret ?_
      (try simp only [wk, wl, wx, reduceLT, reduceEqDiff, Nat.reduceBEq, reduceIte])
      have hcp : callP xs (i : Int) nm = (xs, xs[i].slots[j].bound, false, 0) := by
       unfold callP; rw [if_pos hn]; simp only [Int.toNat_natCast, hxi, hf, hgs]
       rw [if_pos hb]
      rw [hcp]
      exact ⟨by trivial, a6, F6.sub fun b hb => hb.1⟩
   ·refine WC.cond (b := false) (by (try simp only [wk, wl, wx, reduceLT, reduceEqDiff, Nat.reduceBEq, reduceIte]); (try simp); (try omega)) (WC.exit ?_)
    have : j = xs[i].slots.length := by omega
    subst this
    (try simp only [wk, wl, wx, reduceLT, reduceEqDiff, Nat.reduceBEq, reduceIte])
    ((repeat refine WC.seq ?_); refine WC.run ?_)
    (try simp only [wk, wl, wx, reduceLT, reduceEqDiff, Nat.reduceBEq, reduceIte])
    refine WC.ret ?_
    (try simp only [wk, wl, wx, reduceLT, reduceEqDiff, Nat.reduceBEq, reduceIte])
    have hcp : callP xs (i : Int) nm = (xs, 0, false, 22) := by
     unfold callP; rw [if_pos hn]
     have := fstI_none (P := fun s => s.name == nm) fun q hq => hno q hq hq
     simp only [Int.toNat_natCast, hxi, this]
    rw [hcp]
    exact ⟨by trivial, aq, ff.sub fun b hb => hb.1⟩
  all_goals (try simp only [wk, wl, wx, reduceLT, reduceEqDiff, Nat.reduceBEq, reduceIte])
  all_goals simp
 ·have hcp : callP xs n nm = (xs, 0, false, 34) := by unfold callP; rw [if_neg hn]
  rw [hcp]
  by_cases h1 : n < 0
  ·(try simp only [wk, wl, wx, reduceLT, reduceEqDiff, Nat.reduceBEq, reduceIte, decide_eq_true h1, un])
   (repeat refine WC.seq ?_)
   refine WC.cond (b := true) (by (try simp only [wk, wl, wx, reduceLT, reduceEqDiff, Nat.reduceBEq, reduceIte]); (try simp); (try omega)) ?_
   ((repeat refine WC.seq ?_); refine WC.run ?_)
   (try simp only [wk, wl, wx, reduceLT, reduceEqDiff, Nat.reduceBEq, reduceIte])
   refine WC.ret ?_
   (try simp only [wk, wl, wx, reduceLT, reduceEqDiff, Nat.reduceBEq, reduceIte])
   exact ⟨by trivial, a, Fix.refl _ _⟩
  ·(try simp only [wk, wl, wx, reduceLT, reduceEqDiff, Nat.reduceBEq, reduceIte, decide_eq_false h1, un, fa149_0, Nat.zero_add, l0, Sl.lenB a.sl ty65 rfl])
   (repeat refine WC.seq ?_)
   refine WC.cond (b := true) (by (try simp only [wk, wl, wx, reduceLT, reduceEqDiff, Nat.reduceBEq, reduceIte]); (try simp); (try omega)) ?_
   ((repeat refine WC.seq ?_); refine WC.run ?_)
   (try simp only [wk, wl, wx, reduceLT, reduceEqDiff, Nat.reduceBEq, reduceIte])
   refine WC.ret ?_
   (try simp only [wk, wl, wx, reduceLT, reduceEqDiff, Nat.reduceBEq, reduceIte])
   exact ⟨by trivial, a, Fix.refl _ _⟩

def bytesP (xs : List ImgD) (n : Int) : List UInt8 × Int := if 0 ≤ n ∧ n < xs.length then (((xs[n.toNat]?).map (·.bytes)).getD [], 0) else ([], 34)
set_option maxRecDepth 100000 in
set_option maxHeartbeats 4000000 in
theorem bytes31_ok {h : H} {lo hi pb sb : Nat} {sc : Cp} {tag : Nat → Nat} {cs : List Ic} {xs : List ImgD} {n : Int} (a : PM g h lo hi pb sb sc tag cs xs) (hx : xs.length < 2 ^ 40) (hg : Good xs) :
  WF (E g) 31 [.ptr pb 0, .int .i64 n] h fun v h' => (∃ s, v = .tuple [s, i64 (bytesP xs n).2] ∧ Bs g h' s (bytesP xs n).1 ∧ In (fun b => h.next ≤ b ∧ b < h'.next) s) ∧ Kept h h' := by
 refine WF.enter fn31 rfl ?_
 ((repeat refine WC.seq ?_); refine WC.run ?_)
 (try simp only [wk, wl, wx, reduceLT, reduceEqDiff, Nat.reduceBEq, reduceIte])
 have hh := a.his
 ((repeat refine WC.seq ?_); refine WC.run ?_)
 (try simp only [wk, wl, wx, reduceLT, reduceEqDiff, Nat.reduceBEq, reduceIte])
 refine (pimage_ok a hx).mono fun v h2 ⟨e2, e2'⟩ => ?_
 subst e2
 by_cases hn : 0 ≤ n ∧ n < xs.length
 ·rw [if_pos hn] at e2'
  subst e2'
  obtain ⟨i, rfl⟩ : ∃ i : Nat, n = (i : Int) := ⟨n.toNat, by omega⟩
  have hlt : i < xs.length := by omega
  simp only [Int.toNat_natCast]
  obtain ⟨c, hc⟩ := a.ic hlt
  have hxi : xs[i]? = some xs[i] := List.getElem?_eq_getElem hlt
  have mi := a.im i c xs[i] hc hxi
  have ac := a.cell hc hxi
  have sm := hg.at hxi
  obtain ⟨-, -, -, s4, -⟩ := sm.head
  have hbp : bytesP xs (i : Int) = (xs[i].bytes, 0) := by unfold bytesP; rw [if_pos hn]; simp only [Int.toNat_natCast, hxi]; rfl
  rw [hbp]
  (try simp only [wk, wl, wx, reduceLT, reduceEqDiff, Nat.reduceBEq, reduceIte])
  ((repeat refine WC.seq ?_); refine WC.run ?_)
  (try simp only [wk, wl, wx, reduceLT, reduceEqDiff, Nat.reduceBEq, reduceIte])
  (repeat refine WC.seq ?_)
  refine WC.cond (b := false) (by (try simp only [wk, wl, wx, reduceLT, reduceEqDiff, Nat.reduceBEq, reduceIte]); (try simp); (try omega)) (WC.skip ?_)
  (try simp only [wk, wl, wx, reduceLT, reduceEqDiff, Nat.reduceBEq, reduceIte])
  ((repeat refine WC.seq ?_); refine WC.run ?_)
  (try simp only [wk, wl, wx, reduceLT, reduceEqDiff, Nat.reduceBEq, reduceIte, fa56_1, ac.at ty22 rfl (j := 1) (by simp)])
  refine (clone_ok mi.im.bytes (mi.im.inB.sub fun b hb => by omega) (by omega)).mono fun v h3 ⟨q1, q2, q3, q4⟩ => ?_
  (try simp only [wk, wl, wx, reduceLT, reduceEqDiff, Nat.reduceBEq, reduceIte])
  refine WC.ret ?_
  (try simp only [wk, wl, wx, reduceLT, reduceEqDiff, Nat.reduceBEq, reduceIte])
  exact ⟨⟨_, rfl, q1.sl, fun b o n c e => ⟨q4 _ _ _ _ e, q2 _ _ _ _ e⟩⟩, q3⟩
 ·rw [if_neg hn] at e2'
  subst e2'
  have hbp : bytesP xs n = ([], 34) := by unfold bytesP; rw [if_neg hn]
  rw [hbp]
  (try simp only [wk, wl, wx, reduceLT, reduceEqDiff, Nat.reduceBEq, reduceIte])
  ((repeat refine WC.seq ?_); refine WC.run ?_)
  (try simp only [wk, wl, wx, reduceLT, reduceEqDiff, Nat.reduceBEq, reduceIte])
  (repeat refine WC.seq ?_)
  refine WC.cond (b := true) (by (try simp only [wk, wl, wx, reduceLT, reduceEqDiff, Nat.reduceBEq, reduceIte]); (try simp); (try omega)) ?_
  ((repeat refine WC.seq ?_); refine WC.run ?_)
  (try simp only [wk, wl, wx, reduceLT, reduceEqDiff, Nat.reduceBEq, reduceIte])
  refine WC.ret ?_
  (try simp only [wk, wl, wx, reduceLT, reduceEqDiff, Nat.reduceBEq, reduceIte])
  exact ⟨⟨.nils, rfl, Sl.nil, In.nils⟩, Fix.refl _ _⟩
set_option maxRecDepth 100000 in
set_option maxHeartbeats 4000000 in
theorem bytes32_ok {h : H} {lo hi pb sb : Nat} {sc : Cp} {tag : Nat → Nat} {cs : List Ic} {xs : List ImgD} {n : Int} (a : PM g h lo hi pb sb sc tag cs xs) (hx : xs.length < 2 ^ 40) (hg : Good xs) :
  WF (E g) 32 [.ptr pb 0, .int .i64 n] h fun v h' => (∃ s, v = .tuple [s, i64 (bytesP xs n).2] ∧ Bs g h' s (bytesP xs n).1 ∧ In (fun b => h.next ≤ b ∧ b < h'.next) s) ∧ Kept h h' := by
 have hh := a.his
 have l0 : loadP (E g) h 65 (.ptr pb 0) = some (.slice sb 0 xs.length sc) := a.has.at ty65 rfl 0
 refine WF.enter fn32 rfl ?_
 ((repeat refine WC.seq ?_); refine WC.run ?_)
 (try simp only [wk, wl, wx, reduceLT, reduceEqDiff, Nat.reduceBEq, reduceIte])
 ((repeat refine WC.seq ?_); refine WC.run ?_)
 by_cases hn : 0 ≤ n ∧ n < xs.length
 ·obtain ⟨i, rfl⟩ : ∃ i : Nat, n = (i : Int) := ⟨n.toNat, by omega⟩
  have hlt : i < xs.length := by omega
  obtain ⟨c, hc⟩ := a.ic hlt
  have hxi : xs[i]? = some xs[i] := List.getElem?_eq_getElem hlt
  have sm := hg.at hxi
  obtain ⟨-, -, -, s4, -⟩ := sm.head
  have hbp : bytesP xs (i : Int) = (xs[i].bytes, 0) := by unfold bytesP; rw [if_pos hn]; simp only [Int.toNat_natCast, hxi]; rfl
  rw [hbp]
  (try simp only [wk, wl, wx, reduceLT, reduceEqDiff, Nat.reduceBEq, reduceIte, decide_eq_false (show ¬ ((i : Int) < 0) by omega), un, fa149_0, Nat.zero_add, l0, Sl.lenB a.sl ty65 rfl])
  (repeat refine WC.seq ?_)
  refine WC.cond (b := false) (by (try simp only [wk, wl, wx, reduceLT, reduceEqDiff, Nat.reduceBEq, reduceIte]); (try simp); (try omega)) (WC.skip ?_)
  (try simp only [wk, wl, wx, reduceLT, reduceEqDiff, Nat.reduceBEq, reduceIte])
  ((repeat refine WC.seq ?_); refine WC.run ?_)
  (try simp only [wk, wl, wx, reduceLT, reduceEqDiff, Nat.reduceBEq, reduceIte])
  refine sat_literal ty22 rfl ty5 rfl (by decide) (by decide) rfl rfl ?_
  intro h9 b9 n9 f9
  have a9 := a.kept f9
  have l9 : loadP (E g) h9 65 (.ptr pb 0) = some (.slice sb 0 xs.length sc) := a9.has.at ty65 rfl 0
  have mi := a9.im i c xs[i] hc hxi
  have ac := a9.cell hc hxi
  (try simp only [wk, wl, wx, reduceLT, reduceEqDiff, Nat.reduceBEq, reduceIte, fa149_0, Nat.zero_add, l9, idx_slice ty65 rfl ty50 hlt, fa50_1, ac.at ty22 rfl (j := 1) (by simp)])
  have hb9 := mi.im.bytes
  refine sat_app0 (m := xs[i].bytes.length) (ws := xs[i].bytes.map u8) b9 (by omega) ty22 rfl ty22 (.inl ⟨_, rfl⟩) ty5 rfl (by decide) (by decide) (Sl.len hb9) (Sl.cells hb9) (by simp) one_u8 (by simp; omega) ?_
  intro s10 h10 g10 o10 el10 f10 n10
  (try simp only [wk, wl, wx, reduceLT, reduceEqDiff, Nat.reduceBEq, reduceIte])
  refine WC.ret ?_
  (try simp only [wk, wl, wx, reduceLT, reduceEqDiff, Nat.reduceBEq, reduceIte])
  refine ⟨⟨_, rfl, g10.sl, fun b o n c e => ?_⟩, f9.trans (f10.sub fun b hb => by omega)⟩
  obtain ⟨q1, q2⟩ := o10 _ _ _ _ e
  exact ⟨by rcases q1 with rfl | rfl <;> omega, q2⟩
 ·have hbp : bytesP xs n = ([], 34) := by unfold bytesP; rw [if_neg hn]
  rw [hbp]
  by_cases h1 : n < 0
  ·(try simp only [wk, wl, wx, reduceLT, reduceEqDiff, Nat.reduceBEq, reduceIte, decide_eq_true h1, un])
   (repeat refine WC.seq ?_)
   refine WC.cond (b := true) (by (try simp only [wk, wl, wx, reduceLT, reduceEqDiff, Nat.reduceBEq, reduceIte]); (try simp); (try omega)) ?_
   ((repeat refine WC.seq ?_); refine WC.run ?_)
   (try simp only [wk, wl, wx, reduceLT, reduceEqDiff, Nat.reduceBEq, reduceIte])
   refine WC.ret ?_
   (try simp only [wk, wl, wx, reduceLT, reduceEqDiff, Nat.reduceBEq, reduceIte])
   exact ⟨⟨.nils, rfl, Sl.nil, In.nils⟩, Fix.refl _ _⟩
  ·(try simp only [wk, wl, wx, reduceLT, reduceEqDiff, Nat.reduceBEq, reduceIte, decide_eq_false h1, un, fa149_0, Nat.zero_add, l0, Sl.lenB a.sl ty65 rfl])
   (repeat refine WC.seq ?_)
   refine WC.cond (b := true) (by (try simp only [wk, wl, wx, reduceLT, reduceEqDiff, Nat.reduceBEq, reduceIte]); (try simp); (try omega)) ?_
   ((repeat refine WC.seq ?_); refine WC.run ?_)
   (try simp only [wk, wl, wx, reduceLT, reduceEqDiff, Nat.reduceBEq, reduceIte])
   refine WC.ret ?_
   (try simp only [wk, wl, wx, reduceLT, reduceEqDiff, Nat.reduceBEq, reduceIte])
   exact ⟨⟨.nils, rfl, Sl.nil, In.nils⟩, Fix.refl _ _⟩
set_option maxRecDepth 100000 in
theorem images33_ok {h : H} {lo hi pb sb : Nat} {sc : Cp} {tag : Nat → Nat} {cs : List Ic} {xs : List ImgD} (a : PM g h lo hi pb sb sc tag cs xs) : WF (E g) 33 [.ptr pb 0] h fun v h' => v = .int .i64 xs.length ∧ h' = h := by
 have l0 : loadP (E g) h 139 (.ptr pb 0) = some (.slice sb 0 xs.length sc) := a.has.at ty139 rfl 0
 refine WF.enter fn33 rfl ?_
 ((repeat refine WC.seq ?_); refine WC.run ?_)
 (try simp only [wk, wl, wx, reduceLT, reduceEqDiff, Nat.reduceBEq, reduceIte])
 ((repeat refine WC.seq ?_); refine WC.run ?_)
 (try simp only [wk, wl, wx, reduceLT, reduceEqDiff, Nat.reduceBEq, reduceIte, bin_pnil])
 (repeat refine WC.seq ?_)
 refine WC.cond (b := false) (by (try simp only [wk, wl, wx, reduceLT, reduceEqDiff, Nat.reduceBEq, reduceIte]); (try simp); (try omega)) (WC.skip ?_)
 (try simp only [wk, wl, wx, reduceLT, reduceEqDiff, Nat.reduceBEq, reduceIte])
 ((repeat refine WC.seq ?_); refine WC.run ?_)
 (try simp only [wk, wl, wx, reduceLT, reduceEqDiff, Nat.reduceBEq, reduceIte, fa145_0, Nat.zero_add, l0, Sl.lenB a.sl ty139 rfl])
 refine WC.ret ?_
 (try simp only [wk, wl, wx, reduceLT, reduceEqDiff, Nat.reduceBEq, reduceIte])
 exact ⟨trivial, trivial⟩
set_option maxRecDepth 100000 in
theorem images34_ok {h : H} {lo hi pb sb : Nat} {sc : Cp} {tag : Nat → Nat} {cs : List Ic} {xs : List ImgD} (a : PM g h lo hi pb sb sc tag cs xs) : WF (E g) 34 [.ptr pb 0] h fun v h' => v = .int .i64 xs.length ∧ h' = h := by
 have l0 : loadP (E g) h 65 (.ptr pb 0) = some (.slice sb 0 xs.length sc) := a.has.at ty65 rfl 0
 refine WF.enter fn34 rfl ?_
 ((repeat refine WC.seq ?_); refine WC.run ?_)
 (try simp only [wk, wl, wx, reduceLT, reduceEqDiff, Nat.reduceBEq, reduceIte])
 ((repeat refine WC.seq ?_); refine WC.run ?_)
 (try simp only [wk, wl, wx, reduceLT, reduceEqDiff, Nat.reduceBEq, reduceIte, fa149_0, Nat.zero_add, l0, Sl.lenB a.sl ty65 rfl])
 refine WC.ret ?_
 (try simp only [wk, wl, wx, reduceLT, reduceEqDiff, Nat.reduceBEq, reduceIte])
 exact ⟨trivial, trivial⟩
def entryP (xs : List ImgD) : Int := ((xs[0]?).map (·.entry)).getD 0
set_option maxRecDepth 100000 in
theorem entry35_ok {h : H} {lo hi pb sb : Nat} {sc : Cp} {tag : Nat → Nat} {cs : List Ic} {xs : List ImgD} (a : PM g h lo hi pb sb sc tag cs xs) : WF (E g) 35 [.ptr pb 0] h fun v h' => v = .int .i64 (entryP xs) ∧ h' = h := by
 have l0 : loadP (E g) h 139 (.ptr pb 0) = some (.slice sb 0 xs.length sc) := a.has.at ty139 rfl 0
 have hlt := a.pos
 obtain ⟨c, hc⟩ := a.ic hlt
 have hxi : xs[0]? = some xs[0] := List.getElem?_eq_getElem hlt
 have ac := a.cell hc hxi
 simp only [Nat.zero_mul] at ac
 have l3 : loadP (E g) h 2 (.ptr sb 3) = some (.int .i64 xs[0].entry) := by
  have := ac.at (E := E g) ty2 rfl (j := 3) (by simp)
  rw [Nat.zero_add] at this
  exact this
 have hE : entryP xs = xs[0].entry := by unfold entryP; rw [hxi]; rfl
 have hi0 : indexAddrV (E g) 139 (.slice sb 0 xs.length sc) (.int .i64 0) = some (.ptr sb 0) := idx_slice (k := 0) ty139 rfl ty56 hlt
 refine WF.enter fn35 rfl ?_
 ((repeat refine WC.seq ?_); refine WC.run ?_)
 (try simp only [wk, wl, wx, reduceLT, reduceEqDiff, Nat.reduceBEq, reduceIte])
 ((repeat refine WC.seq ?_); refine WC.run ?_)
 (try simp only [wk, wl, wx, reduceLT, reduceEqDiff, Nat.reduceBEq, reduceIte, bin_pnil])
 (repeat refine WC.seq ?_)
 refine WC.cond (b := false) (by (try simp only [wk, wl, wx, reduceLT, reduceEqDiff, Nat.reduceBEq, reduceIte]); (try simp); (try omega)) (WC.skip ?_)
 (try simp only [wk, wl, wx, reduceLT, reduceEqDiff, Nat.reduceBEq, reduceIte])
 ((repeat refine WC.seq ?_); refine WC.run ?_)
 (try simp only [wk, wl, wx, reduceLT, reduceEqDiff, Nat.reduceBEq, reduceIte, fa145_0, Nat.zero_add, l0, hi0, fa56_3, l3])
 refine WC.ret ?_
 (try simp only [wk, wl, wx, reduceLT, reduceEqDiff, Nat.reduceBEq, reduceIte, hE])
 exact ⟨trivial, trivial⟩
set_option maxRecDepth 100000 in
theorem entry36_ok {h : H} {lo hi pb sb : Nat} {sc : Cp} {tag : Nat → Nat} {cs : List Ic} {xs : List ImgD} (a : PM g h lo hi pb sb sc tag cs xs) : WF (E g) 36 [.ptr pb 0] h fun v h' => v = .int .i64 (entryP xs) ∧ h' = h := by
 have l0 : loadP (E g) h 65 (.ptr pb 0) = some (.slice sb 0 xs.length sc) := a.has.at ty65 rfl 0
 have hlt := a.pos
 obtain ⟨c, hc⟩ := a.ic hlt
 have hxi : xs[0]? = some xs[0] := List.getElem?_eq_getElem hlt
 have ac := a.cell hc hxi
 simp only [Nat.zero_mul] at ac
 have l3 : loadP (E g) h 2 (.ptr sb 3) = some (.int .i64 xs[0].entry) := by
  have := ac.at (E := E g) ty2 rfl (j := 3) (by simp)
  rw [Nat.zero_add] at this
  exact this
 have hE : entryP xs = xs[0].entry := by unfold entryP; rw [hxi]; rfl
 have hi0 : indexAddrV (E g) 65 (.slice sb 0 xs.length sc) (.int .i64 0) = some (.ptr sb 0) := idx_slice (k := 0) ty65 rfl ty50 hlt
 refine WF.enter fn36 rfl ?_
 ((repeat refine WC.seq ?_); refine WC.run ?_)
 (try simp only [wk, wl, wx, reduceLT, reduceEqDiff, Nat.reduceBEq, reduceIte])
 ((repeat refine WC.seq ?_); refine WC.run ?_)
 (try simp only [wk, wl, wx, reduceLT, reduceEqDiff, Nat.reduceBEq, reduceIte, fa149_0, Nat.zero_add, l0, hi0, fa50_3, l3])
 refine WC.ret ?_
 (try simp only [wk, wl, wx, reduceLT, reduceEqDiff, Nat.reduceBEq, reduceIte, hE])
 exact ⟨trivial, trivial⟩
end Go.Proofs.OP
