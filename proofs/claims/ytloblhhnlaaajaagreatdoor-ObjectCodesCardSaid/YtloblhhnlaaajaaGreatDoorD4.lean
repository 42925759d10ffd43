/- Walks: the reference's Decode. Printed by genq4.py. -/
import Derived.Test.YtloblhhnlaaajaaGreatDoorB13
import Derived.Test.YtloblhhnlaaajaaGreatDoorD2
import Derived.Test.YtloblhhnlaaajaaGreatDoorD3
set_option linter.unusedVariables false
set_option linter.unusedSimpArgs false
set_option linter.defProp false
set_option linter.unusedSimpArgs false
namespace Go.Proofs.OP
open Go Go.Ev
open Go.Proofs
open Nat (reduceLT reduceEqDiff)
variable {g : T (List V)}

@[irreducible] def rsymR (s : RdS) : SymD × RdS := (⟨(rtxtR s).1, (rnumR (rtxtR s).2).1, (rnumR (rnumR (rtxtR s).2).2).1, (rnumR (rnumR (rnumR (rtxtR s).2).2).2).1.tmod 2 == 1, decide (2 ≤ (rnumR (rnumR (rnumR (rtxtR s).2).2).2).1)⟩, (rnumR (rnumR (rnumR (rtxtR s).2).2).2).2)
@[irreducible] def rrelR (s : RdS) : RelD × RdS := (⟨(rnumR s).1, (rnumR (rnumR s).2).1, (rnumR (rnumR (rnumR s).2).2).1, (rtxtR (rnumR (rnumR (rnumR s).2).2).2).1, (rnumR (rtxtR (rnumR (rnumR (rnumR s).2).2).2).2).1⟩, (rnumR (rtxtR (rnumR (rnumR (rnumR s).2).2).2).2).2)
def rlistR {α : Type} (f : RdS → α × RdS) (k : Nat) (s : RdS) : RdS × List α := eachR (fun x => x.1) (adv f) k (cntR s).1 ((cntR s).2, [])
def e1R (s : RdS) : RdS := (rtxtR s).2
theorem e1R_le (s : RdS) : (e1R s).xs.length ≤ s.xs.length := rtxtR_le s
def e3R (s : RdS) : RdS := e1R (e1R (e1R s))
def rsymsR (k : Nat) (s : RdS) : RdS × List SymD := rlistR rsymR k (e3R s)
def rrelsR (k : Nat) (s : RdS) : RdS × List RelD := rlistR rrelR k (rsymsR k s).1
def rneedsR (k : Nat) (s : RdS) : RdS × List (List UInt8) := rlistR rtxtR k (rrelsR k s).1
def robjR (k : Nat) (s : RdS) : ObjD × Bool := (⟨(rtxtR s).1, (rtxtR (e1R s)).1, (rtxtR (e1R (e1R s))).1, (rsymsR k s).2, (rrelsR k s).2, (rneedsR k s).2, (rtxtR (rneedsR k s).1).1⟩, (rtxtR (rneedsR k s).1).2.bad)
def rdecP (b : List UInt8) : ObjD × Int :=
  if openE 0 b ≠ 0 then (zeroO, openE 0 b)
  else if (robjR b.length ⟨inner b, false⟩).2 = true ∨ checkE (robjR b.length ⟨inner b, false⟩).1 ≠ 0 ∨ encB (robjR b.length ⟨inner b, false⟩).1 ≠ b then (zeroO, 12)
  else ((robjR b.length ⟨inner b, false⟩).1, 0)
theorem takR_bad {s : RdS} {n : Int} (h : (takR s n).2.bad = false) : s.bad = false ∧ 0 ≤ n ∧ (takR s n).2.xs.length + n.toNat = s.xs.length := by
  unfold takR at *
  split at h
  · cases h
  · rename_i q
    rw [if_neg q]
    refine ⟨h, by omega, ?_⟩
    simp; omega
theorem rnumR_bad {s : RdS} (h : (rnumR s).2.bad = false) : s.bad = false ∧ (rnumR s).2.xs.length < s.xs.length := by
  unfold rnumR at *
  obtain ⟨a, b, c⟩ := takR_bad h
  exact ⟨a, by simp only at *; omega⟩
theorem rtxtR_bad {s : RdS} (h : (rtxtR s).2.bad = false) : s.bad = false ∧ (rtxtR s).2.xs.length < s.xs.length := by
  unfold rtxtR at *
  obtain ⟨a, b, c⟩ := takR_bad h
  obtain ⟨d, e⟩ := rnumR_bad a
  exact ⟨d, by omega⟩
theorem rsymR_bad {s : RdS} (h : (rsymR s).2.bad = false) : s.bad = false ∧ (rsymR s).2.xs.length < s.xs.length := by
  unfold rsymR at *
  obtain ⟨a1, a2⟩ := rnumR_bad h
  obtain ⟨b1, b2⟩ := rnumR_bad a1
  obtain ⟨c1, c2⟩ := rnumR_bad b1
  obtain ⟨d1, d2⟩ := rtxtR_bad c1
  exact ⟨d1, by simp only; omega⟩
theorem rrelR_bad {s : RdS} (h : (rrelR s).2.bad = false) : s.bad = false ∧ (rrelR s).2.xs.length < s.xs.length := by
  unfold rrelR at *
  obtain ⟨a1, a2⟩ := rnumR_bad h
  obtain ⟨b1, b2⟩ := rtxtR_bad a1
  obtain ⟨c1, c2⟩ := rnumR_bad b1
  obtain ⟨d1, d2⟩ := rnumR_bad c1
  obtain ⟨e1, e2⟩ := rnumR_bad d1
  exact ⟨e1, by simp only; omega⟩
theorem rsymR_le (s : RdS) : (rsymR s).2.xs.length ≤ s.xs.length := by
  unfold rsymR
  exact Nat.le_trans (rnumR_le _) (Nat.le_trans (rnumR_le _) (Nat.le_trans (rnumR_le _) (rtxtR_le _)))
theorem rrelR_le (s : RdS) : (rrelR s).2.xs.length ≤ s.xs.length := by
  unfold rrelR
  exact Nat.le_trans (rnumR_le _) (Nat.le_trans (rtxtR_le _) (Nat.le_trans (rnumR_le _) (Nat.le_trans (rnumR_le _) (rnumR_le _))))
theorem cntR_lt (s : RdS) : (cntR s).1 < 2 ^ 63 := by
  have h : (rnumR s).1 < 2 ^ 63 := by
    unfold rnumR
    have := wrap_lt ((leN (takR s 8).1 : Nat) : Int)
    show IntKind.i64.wrap _ < _; omega
  unfold cntR
  show (if cntB s = true then 0 else (rnumR s).1) < _
  split
  · decide
  · exact h
theorem build27_0 : buildV (E g) 27 [] = some (.agg [.str [], .nils, .nils, .nils, .nils, .nils, .str []]) := by
  simp only [buildV, ty27, fillAll, List.all_cons, List.all_nil, ty9, ty22, ty23, ty24, ty25, Option.isSome_some, Bool.and_true, Bool.not_true, cond_false]
  rfl
theorem build27_3 {n : List UInt8} {x y : V} (hx : x.cells = [x]) (hy : y.cells = [y]) : buildV (E g) 27 [(0, .str n), (1, x), (2, y)] = some (.agg [.str n, x, y, .nils, .nils, .nils, .str []]) := by
  simp only [buildV, ty27, fillAll, nth, sizeOf_of ty9, sizeOf_of ty22, hx, hy, List.all_cons, List.all_nil, ty9, ty22, ty23, ty24, ty25, Option.isSome_some, Bool.and_true, Bool.not_true, cond_false]
  rfl
theorem build89 {n : List UInt8} {a b : Int} : buildV (E g) 89 [(0, .str n), (1, i64 a), (2, i64 b)] = some (.agg [.str n, i64 a, i64 b, .bool false, .bool false]) := by
  simp only [buildV, ty89, fillAll, nth, sizeOf_of ty9, sizeOf_of ty3, sizeOf_of ty2, List.all_cons, List.all_nil, ty9, ty3, ty2, ty4, Option.isSome_some, Bool.and_true, Bool.not_true, cond_false]
  rfl
theorem build91 {a b c : Int} : buildV (E g) 91 [(0, i64 a), (1, i64 b), (2, i64 c)] = some (.agg [i64 a, i64 b, i64 c, .str [], i64 0]) := by
  simp only [buildV, ty91, fillAll, nth, sizeOf_of ty3, sizeOf_of ty2, List.all_cons, List.all_nil, ty9, ty3, ty2, Option.isSome_some, Bool.and_true, Bool.not_true, cond_false]
  rfl

set_option maxRecDepth 100000 in
set_option maxHeartbeats 8000000 in
theorem rdecode_ok {h : H} {s : V} {b : List UInt8} (hb : Bs g h s b) (hs : In (· < h.next) s) (hlen : b.length < 2 ^ 38) :
    WF (E g) 14 [s] h fun v h' => Kept h h' ∧ ∃ c, v = .tuple [.agg (c.cells (rdecP b).1), i64 (rdecP b).2] ∧ Ob g h' (fun b => h.next ≤ b ∧ b < h'.next) c (rdecP b).1 := by
  refine WF.enter fn14 rfl ?_
  ((repeat refine WC.seq ?_); refine WC.run ?_)
  (try simp only [wk, wl, wx, reduceLT, reduceEqDiff, Nat.reduceBEq, reduceIte])
  refine wop_alloc ty27 ?_
  intro h1 b1 n1 f1
  have b1 : Has h1 h.next [.str [], .nils, .nils, .nils, .nils, .nils, .str []] := b1
  (try simp only [wk, wl, wx, reduceLT, reduceEqDiff, Nat.reduceBEq, reduceIte])
  have hb1 := Sl.fix hb hs f1
  have hs1 : In (· < h1.next) s := hs.sub fun x hx => by omega
  ((repeat refine WC.seq ?_); refine WC.run ?_)
  (try simp only [wk, wl, wx, reduceLT, reduceEqDiff, Nat.reduceBEq, reduceIte])
  refine (begun_ok (k := 0) (by decide) hb1 hs1 (by omega)).mono fun v h2 ⟨F2, c1, c2⟩ => ?_
  have x2 := F2.next
  have b2 := b1.fix F2 (by omega)
  rcases (Decidable.em (openE 0 b = 0)).symm with hoe | hoe
  · have hv := c1 hoe
    subst hv
    (try simp only [wk, wl, wx, reduceLT, reduceEqDiff, Nat.reduceBEq, reduceIte, i64])
    ((repeat refine WC.seq ?_); refine WC.run ?_)
    (try simp only [wk, wl, wx, reduceLT, reduceEqDiff, Nat.reduceBEq, reduceIte, i64])
    (repeat refine WC.seq ?_)
    refine WC.cond (b := true) (by (try simp only [wk, wl, wx, reduceLT, reduceEqDiff, Nat.reduceBEq, reduceIte, hoe]); (try simp); (try omega)) ?_
    ((repeat refine WC.seq ?_); refine WC.run ?_)
    (try simp only [wk, wl, wx, reduceLT, reduceEqDiff, Nat.reduceBEq, reduceIte, build27_0])
    refine sat_store b2 ty27 rfl (Nat.le_refl 7) rfl ?_
    intro h5 b5 n5 f5
    have l5 : loadP (E g) h5 27 (.ptr h.next 0) = some (.agg [.str [], .nils, .nils, .nils, .nils, .nils, .str []]) := b5.agg ty27 rfl (Nat.le_refl 7)
    (try simp only [wk, wl, wx, reduceLT, reduceEqDiff, Nat.reduceBEq, reduceIte])
    refine WC.ret ?_
    (try simp only [wk, wl, wx, reduceLT, reduceEqDiff, Nat.reduceBEq, reduceIte, l5])
    have hd : rdecP b = (zeroO, openE 0 b) := by unfold rdecP; rw [if_pos hoe]
    rw [hd]
    exact ⟨⟨by omega, fun c hc => by rw [f5.same c (by omega), F2.same c (by omega), f1.same c hc]⟩, ⟨.nils, .nils, .nils, .nils, .nils⟩, rfl, zeroO_ob⟩
  · obtain ⟨rb, e, w1, w2, r2⟩ := c2 hoe
    subst e
    have hb2 := Sl.fix hb1 hs1 F2
    (try simp only [wk, wl, wx, reduceLT, reduceEqDiff, Nat.reduceBEq, reduceIte, i64])
    ((repeat refine WC.seq ?_); refine WC.run ?_)
    (try simp only [wk, wl, wx, reduceLT, reduceEqDiff, Nat.reduceBEq, reduceIte, i64])
    (repeat refine WC.seq ?_)
    refine WC.cond (b := false) (by (try simp only [wk, wl, wx, reduceLT, reduceEqDiff, Nat.reduceBEq, reduceIte]); (try simp); (try omega)) (WC.skip ?_)
    (try simp only [wk, wl, wx, reduceLT, reduceEqDiff, Nat.reduceBEq, reduceIte])
    have hil8 := inner_len8 hoe
    generalize hp0 : (⟨inner b, false⟩ : RdS) = p0 at r2
    have lp0 : p0.xs.length + 8 ≤ b.length := by rw [← hp0]; exact hil8.2
    (repeat refine WC.seq ?_)
    refine WC.mono (Q := fun e fr hh => e = .normal ∧ ∃ ts q cv dv, fr = ⟨ts, 143, [], 14, none⟩ ∧ ts.get 0 = some s ∧ ts.get 2 = some (.ptr h.next 0) ∧ ts.get 4 = some (.ptr rb 0) ∧ ts.get 6 = some (.ptr q 0) ∧ h2.next ≤ q ∧ q < hh.next ∧ Has hh q [.str (rtxtR p0).1, cv, dv, .nils, .nils, .nils, .str []] ∧
      Bs g hh cv (rtxtR (e1R p0)).1 ∧ In (fun b => h2.next ≤ b ∧ b < hh.next ∧ b ≠ q) cv ∧ Bs g hh dv (rtxtR (e1R (e1R p0))).1 ∧ In (fun b => h2.next ≤ b ∧ b < hh.next ∧ b ≠ q) dv ∧ Rd g hh (· < h1.next) rb (e3R p0) ∧ Fix (fun b => b < h2.next ∧ b ≠ rb) h2 hh) ?_ ?_
    · ((repeat refine WC.seq ?_); refine WC.run ?_)
      (try simp only [wk, wl, wx, reduceLT, reduceEqDiff, Nat.reduceBEq, reduceIte])
      refine (rtxt_ok r2 (by omega) (by omega)).mono fun v j1 ⟨e1, r1', m1, g1⟩ => ?_
      subst e1
      have r1' : Rd g j1 (· < h1.next) rb (e1R p0) := r1'
      have y1 := e1R_le p0
      (try simp only [wk, wl, wx, reduceLT, reduceEqDiff, Nat.reduceBEq, reduceIte])
      refine (rtxt_ok r1' (by omega) (by omega)).mono fun v j2 ⟨e2, r2', m2, g2⟩ => ?_
      subst e2
      have r2' : Rd g j2 (· < h1.next) rb (e1R (e1R p0)) := r2'
      have y2 := e1R_le (e1R p0)
      (try simp only [wk, wl, wx, reduceLT, reduceEqDiff, Nat.reduceBEq, reduceIte])
      refine sat_ofStr ?_
      intro j3 d3 m3 g3
      have r3' := r2'.fix g3 (by omega) (fun b hb => by omega)
      (try simp only [wk, wl, wx, reduceLT, reduceEqDiff, Nat.reduceBEq, reduceIte])
      refine (rtxt_ok r3' (by omega) (by omega)).mono fun v j4 ⟨e4, r4', m4, g4⟩ => ?_
      subst e4
      have r4' : Rd g j4 (· < h1.next) rb (e3R p0) := r4'
      have y4 : (e3R p0).xs.length ≤ p0.xs.length := Nat.le_trans (e1R_le _) (Nat.le_trans (e1R_le _) (e1R_le _))
      have d4 : Bs g j4 (.slice j2.next 0 (rtxtR (e1R p0)).1.length (.opn 0 0)) (rtxtR (e1R p0)).1 := Sl.fix d3 (K := (· ≠ rb)) (fun b o n c e => by injection e with e; omega) g4
      (try simp only [wk, wl, wx, reduceLT, reduceEqDiff, Nat.reduceBEq, reduceIte])
      refine sat_ofStr ?_
      intro j5 d5 m5 g5
      have d5' : Bs g j5 (.slice j2.next 0 (rtxtR (e1R p0)).1.length (.opn 0 0)) (rtxtR (e1R p0)).1 := Sl.fix d4 (K := (· < j4.next)) (fun b o n c e => by injection e with e; omega) g5
      have r5' := r4'.fix g5 (by omega) (fun b hb => by omega)
      (try simp only [wk, wl, wx, reduceLT, reduceEqDiff, Nat.reduceBEq, reduceIte, build27_3 (Sl.one d5').1 (Sl.one d5).1])
      refine wop_alloc ty27 ?_
      intro j6 d6 m6 g6
      (try simp only [wk, wl, wx, reduceLT, reduceEqDiff, Nat.reduceBEq, reduceIte])
      refine sat_store d6 ty27 rfl (Nat.le_refl 7) rfl ?_
      intro h5 q5 n5 f5
      (try simp only [wk, wl, wx, reduceLT, reduceEqDiff, Nat.reduceBEq, reduceIte])
      refine ⟨by trivial, _, j5.next, _, _, rfl, by (try simp only [wk, wl, wx, reduceLT, reduceEqDiff, Nat.reduceBEq, reduceIte]), by (try simp only [wk, wl, wx, reduceLT, reduceEqDiff, Nat.reduceBEq, reduceIte]), by (try simp only [wk, wl, wx, reduceLT, reduceEqDiff, Nat.reduceBEq, reduceIte]), by (try simp only [wk, wl, wx, reduceLT, reduceEqDiff, Nat.reduceBEq, reduceIte]), by omega, by omega, q5, Sl.fix (Sl.fix d5' (K := (· < j5.next)) (fun b o n c e => by injection e with e; omega) g6) (K := (· ≠ j5.next)) (fun b o n c e => by injection e with e; omega) f5, fun b o n c e => by injection e with e; omega, Sl.fix (Sl.fix d5 (K := (· < j5.next)) (fun b o n c e => by injection e with e; omega) g6) (K := (· ≠ j5.next)) (fun b o n c e => by injection e with e; omega) f5, fun b o n c e => by injection e with e; omega, (r5'.fix g6 (by omega) (fun b hb => by omega)).fix f5 (by omega) (fun b hb => by omega), ⟨by omega, fun b hb => by rw [f5.same b (by omega), g6.same b (by omega), g5.same b (by omega), g4.same b hb.2, g3.same b (by omega), g2.same b hb.2, g1.same b hb.2]⟩⟩
    · rintro e fr h5 ⟨rfl, ts, q, cv, dv, rfl, t0, t2, t4, t6, q1, q2, q5, cv5, cw, dv5, dw, r5, F5⟩
      have x5 := F5.next
      have y4 : (e3R p0).xs.length ≤ p0.xs.length := Nat.le_trans (e1R_le _) (Nat.le_trans (e1R_le _) (e1R_le _))
      have b5 := b2.fix F5 ⟨by omega, by omega⟩
      have hb5 := Sl.fix hb2 (hs1.sub fun b hb => (⟨by omega, by omega⟩ : b < h2.next ∧ b ≠ rb)) F5
      (try simp only [wk, wl, wx, reduceLT, reduceEqDiff, Nat.reduceBEq, reduceIte])
      ((repeat refine WC.seq ?_); refine WC.run ?_)
      (try simp only [wk, wl, wx, reduceLT, reduceEqDiff, Nat.reduceBEq, reduceIte, t4])
      refine (cnt_ok r5 (by omega) (by omega)).mono fun v hc ⟨ec, rc, nc, fc⟩ => ?_
      subst ec
      have qc := q5.fix fc (by omega)
      have lc := cntR_le (e3R p0)
      (try simp only [wk, wl, wx, reduceLT, reduceEqDiff, Nat.reduceBEq, reduceIte])
      (repeat refine WC.seq ?_)
      refine WC.mono (Q := fun e fr hh => e = .normal ∧ ∃ ts sv, fr = ⟨ts, 143, [], 14, none⟩ ∧ DI g h5 h1.next p0.xs.length rb q (fun zz => [.str (rtxtR p0).1, cv, dv, zz, .nils, .nils, .str []]) 89 5 (fun L => L.flatMap symV) (eachR (fun x => x.1) (adv rsymR) b.length (cntR (e3R p0)).1 ((cntR (e3R p0)).2, [])) hh sv ∧ ts.get 0 = some s ∧ ts.get 2 = some (.ptr h.next 0) ∧ ts.get 4 = some (.ptr rb 0) ∧ ts.get 6 = some (.ptr q 0)) (WC.block ?_) ?_
      · refine WC.while (fun m fr hh => ∃ ts n' s' sv, fr = ⟨ts, 143, [], 14, none⟩ ∧ DI g h5 h1.next p0.xs.length rb q (fun zz => [.str (rtxtR p0).1, cv, dv, zz, .nils, .nils, .str []]) 89 5 (fun L => L.flatMap symV) s' hh sv ∧ n' < 2 ^ 63 ∧ (s'.1.bad = false → s'.1.xs.length < m) ∧ eachR (fun x => x.1) (adv rsymR) b.length (cntR (e3R p0)).1 ((cntR (e3R p0)).2, []) = eachR (fun x => x.1) (adv rsymR) m n' s' ∧ ts.get 0 = some s ∧ ts.get 2 = some (.ptr h.next 0) ∧ ts.get 4 = some (.ptr rb 0) ∧ ts.get 6 = some (.ptr q 0) ∧ ts.get 7 = some (i64 n')) ?_ ⟨_, (cntR (e3R p0)).1, ((cntR (e3R p0)).2, []), .nils, rfl, ⟨rc, qc, .nil, In.nils, ⟨by omega, fun b hb => fc.same b hb.2.1⟩, by show (cntR (e3R p0)).2.xs.length ≤ _; omega, Nat.zero_le _, fun _ => by show 0 + (cntR (e3R p0)).2.xs.length ≤ _; omega⟩, cntR_lt _, fun _ => by show (cntR (e3R p0)).2.xs.length < _; omega, rfl, ?_, ?_, ?_, ?_, ?_⟩
        · rintro m fr hh ⟨ts, n', s', sv, rfl, ii, hn', hm, he, t0, t2, t4, t6, tn⟩
          obtain ⟨bsl, bb, _, _⟩ := ii.rd
          have stop (hs : ¬ (0 < n' ∧ s'.1.bad = false)) : DI g h5 h1.next p0.xs.length rb q (fun zz => [.str (rtxtR p0).1, cv, dv, zz, .nils, .nils, .str []]) 89 5 (fun L => L.flatMap symV) (eachR (fun x => x.1) (adv rsymR) b.length (cntR (e3R p0)).1 ((cntR (e3R p0)).2, [])) hh sv := by
            rw [he]
            cases m with
            | zero => exact ii
            | succ m => rw [eachR, if_neg hs]; exact ii
          ((repeat refine WC.seq ?_); refine WC.run ?_)
          rcases Decidable.em (0 < n') with hp | hp
          · cases hbd : s'.1.bad with
            | true =>
              rw [hbd] at bb
              (try simp only [wk, wl, wx, reduceLT, reduceEqDiff, Nat.reduceBEq, reduceIte, tn, t4, i64, decide_eq_true hp, un, fa131_1, Nat.zero_add, bb.at ty4 rfl, Bool.not_true])
              (repeat refine WC.seq ?_)
              refine WC.cond (b := false) (by (try simp only [wk, wl, wx, reduceLT, reduceEqDiff, Nat.reduceBEq, reduceIte]); (try simp); (try omega)) (WC.exit ?_)
              (try simp only [wk, wl, wx, reduceLT, reduceEqDiff, Nat.reduceBEq, reduceIte])
              exact ⟨by trivial, _, sv, rfl, stop (by rw [hbd]; simp), by (try simp only [wk, wl, wx, reduceLT, reduceEqDiff, Nat.reduceBEq, reduceIte, t0]), by (try simp only [wk, wl, wx, reduceLT, reduceEqDiff, Nat.reduceBEq, reduceIte, t2]), by (try simp only [wk, wl, wx, reduceLT, reduceEqDiff, Nat.reduceBEq, reduceIte, t4]), by (try simp only [wk, wl, wx, reduceLT, reduceEqDiff, Nat.reduceBEq, reduceIte, t6])⟩
            | false =>
              rw [hbd] at bb
              (try simp only [wk, wl, wx, reduceLT, reduceEqDiff, Nat.reduceBEq, reduceIte, tn, t4, i64, decide_eq_true hp, un, fa131_1, Nat.zero_add, bb.at ty4 rfl, Bool.not_false])
              (repeat refine WC.seq ?_)
              refine WC.cond (b := true) (by (try simp only [wk, wl, wx, reduceLT, reduceEqDiff, Nat.reduceBEq, reduceIte]); (try simp); (try omega)) (WC.skip ?_)
              (try simp only [wk, wl, wx, reduceLT, reduceEqDiff, Nat.reduceBEq, reduceIte])
              have hmb := hm hbd
              obtain ⟨m, rfl⟩ : ∃ m', m = m' + 1 := ⟨m - 1, by omega⟩
              have hE : eachR (fun x => x.1) (adv rsymR) (m + 1) n' s' = eachR (fun x => x.1) (adv rsymR) m (n' - 1) (adv rsymR s') := by rw [eachR, if_pos ⟨hp, hbd⟩]
              obtain ⟨r0, o0, bu0, nw, fA, lA, lnA, smA⟩ := ii
              have sm0 := smA hbd
              have xA := fA.next
              obtain ⟨k0, hk0⟩ : ∃ k0, k0 = hh := ⟨hh, rfl⟩
              subst hk0
              have F0 := Fix.refl (· ≠ rb) k0
              (repeat refine WC.seq ?_)
              refine WC.block ?_
              ((repeat refine WC.seq ?_); refine WC.run ?_)
              (try simp only [wk, wl, wx, reduceLT, reduceEqDiff, Nat.reduceBEq, reduceIte, t4])
              refine (rtxt_ok r0 (by omega) (by omega)).mono fun v k1 ⟨e1, r1, n1, f1⟩ => ?_
              subst e1
              have l1 := rtxtR_le s'.1
              have F1 : Fix (· ≠ rb) k0 k1 := F0.trans f1
              (try simp only [wk, wl, wx, reduceLT, reduceEqDiff, Nat.reduceBEq, reduceIte, t4, build89])
              refine (rnum_ok r1 (by omega) (by omega)).mono fun v k2 ⟨e2, r2, n2, f2⟩ => ?_
              subst e2
              have l2 := rnumR_le (rtxtR s'.1).2
              have F2 : Fix (· ≠ rb) k0 k2 := F1.trans f2
              (try simp only [wk, wl, wx, reduceLT, reduceEqDiff, Nat.reduceBEq, reduceIte, t4, build89])
              refine (rnum_ok r2 (by omega) (by omega)).mono fun v k3 ⟨e3, r3, n3, f3⟩ => ?_
              subst e3
              have l3 := rnumR_le (rnumR (rtxtR s'.1).2).2
              have F3 : Fix (· ≠ rb) k0 k3 := F2.trans f3
              (try simp only [wk, wl, wx, reduceLT, reduceEqDiff, Nat.reduceBEq, reduceIte, t4, build89])
              refine wop_alloc ty89 ?_
              intro k4 b4 n4 f4
              (try simp only [wk, wl, wx, reduceLT, reduceEqDiff, Nat.reduceBEq, reduceIte])
              refine sat_store b4 ty89 rfl (Nat.le_refl 5) rfl ?_
              intro k5 b5 n5 f5
              have b5 : Has k5 k3.next [.str (rtxtR s'.1).1, i64 (rnumR (rtxtR s'.1).2).1, i64 (rnumR (rnumR (rtxtR s'.1).2).2).1, .bool false, .bool false] := b5
              have r5 := (r3.fix f4 (by omega) (fun b hb => by omega)).fix f5 (by omega) (fun b hb => by omega)
              (try simp only [wk, wl, wx, reduceLT, reduceEqDiff, Nat.reduceBEq, reduceIte])
              ((repeat refine WC.seq ?_); refine WC.run ?_)
              (try simp only [wk, wl, wx, reduceLT, reduceEqDiff, Nat.reduceBEq, reduceIte, t4])
              refine (rnum_ok r5 (by omega) (by omega)).mono fun v k6 ⟨e6, r6, n6, f6⟩ => ?_
              subst e6
              have b6 := b5.fix f6 (by omega)
              (try simp only [wk, wl, wx, reduceLT, reduceEqDiff, Nat.reduceBEq, reduceIte])
              ((repeat refine WC.seq ?_); refine WC.run ?_)
              (try simp only [wk, wl, wx, reduceLT, reduceEqDiff, Nat.reduceBEq, reduceIte, i64, bin_rem (show (2 : Int) ≠ 0 by decide), fa89_3, fa89_4, Nat.zero_add])
              refine sat_store b6 ty4 rfl (show 3 + 1 ≤ 5 from by decide) rfl ?_
              intro k7 b7 n7 f7
              (try simp only [wk, wl, wx, reduceLT, reduceEqDiff, Nat.reduceBEq, reduceIte, fa89_4, Nat.zero_add])
              refine sat_store (o := 4) b7 ty4 rfl (show 4 + 1 ≤ 5 from by decide) rfl ?_
              intro k8 b8 n8 f8
              have b8 : Has k8 k3.next (symV (rsymR s'.1).1) := by unfold rsymR; exact b8
              have l8 : loadP (E g) k8 89 (.ptr k3.next 0) = some (.agg (symV (rsymR s'.1).1)) := b8.agg ty89 rfl (show 0 + 5 ≤ (symV (rsymR s'.1).1).length from Nat.le_refl 5)
              have FA : Fix (fun b => b < k0.next ∧ b ≠ rb) k0 k8 := ⟨by omega, fun b hb => by rw [f8.same b (by omega), f7.same b (by omega), f6.same b hb.2, f5.same b (by omega), f4.same b (by omega), F3.same b hb.2]⟩
              have r8 : Rd g k8 (· < h1.next) rb (rsymR s'.1).2 := by
                unfold rsymR
                exact (r6.fix f7 (by omega) (fun b hb => by omega)).fix f8 (by omega) (fun b hb => by omega)
              have o8 := o0.fix FA ⟨by omega, by omega⟩
              have bu8 := bu0.fix (nw.sub fun b hb => (⟨by omega, by omega⟩ : b < k0.next ∧ b ≠ rb)) FA
              (try simp only [wk, wl, wx, reduceLT, reduceEqDiff, Nat.reduceBEq, reduceIte])
              ((repeat refine WC.seq ?_); refine WC.run ?_)
              (try simp only [wk, wl, wx, reduceLT, reduceEqDiff, Nat.reduceBEq, reduceIte, t6, fa27_3, Nat.zero_add, o8.at ty23 rfl, l8])
              refine sat_buildSlice (cs := symV (rsymR s'.1).1) ty23 rfl ty89 rfl (by decide) (by decide) (fill5 (symV_length (rsymR s'.1).1)) rfl ?_
              intro ka la na fa
              have oa := o8.fix fa (by omega)
              have bua := bu8.fix (nw.sub fun b hb => by omega) fa
              (try simp only [wk, wl, wx, reduceLT, reduceEqDiff, Nat.reduceBEq, reduceIte, t6])
              refine sat_grow bua (nw.sub fun b hb => by omega) ty23 rfl ty23 (.inl ⟨_, rfl⟩) ty89 rfl (by decide) (by decide) la.sl.len la.sl.cells (by rfl) (symV_one _) (by simp; omega) ?_
              intro sw kb gb
              have xb := gb.fix.next
              have ob := oa.fix gb.fix ⟨by omega, fun o m cc e => by have := nw _ _ _ _ e; omega⟩
              have wb : In (fun b => h5.next ≤ b ∧ b < kb.next) sw := fun b o n c e => ⟨by
                rcases gb.own _ _ _ _ e with q | ⟨o, k, c, q⟩
                · omega
                · exact (nw _ _ _ _ q).1, gb.low _ _ _ _ e⟩
              (try simp only [wk, wl, wx, reduceLT, reduceEqDiff, Nat.reduceBEq, reduceIte, t6, fa27_3, Nat.zero_add])
              refine sat_store ob ty23 (by rw [gb.buf.sl.one.1]; rfl) (by simp) (by rw [gb.buf.sl.one.1]; simp [gb.buf.sl.one.2]) ?_
              intro kz oz nz fz
              rw [gb.buf.sl.one.1] at oz
              (try simp only [wk, wl, wx, reduceLT, reduceEqDiff, Nat.reduceBEq, reduceIte])
              ((repeat refine WC.seq ?_); refine WC.run ?_)
              (try simp only [wk, wl, wx, reduceLT, reduceEqDiff, Nat.reduceBEq, reduceIte, tn, bin_sub, i64])
              have hle := rsymR_le s'.1
              refine ⟨m, by omega, _, n' - 1, adv rsymR s', sw, rfl, ⟨?_, oz, ?_, wb.sub fun b hb => by omega, ⟨by omega, fun b hb => ?_⟩, by show (rsymR s'.1).2.xs.length ≤ _; omega, by simp [adv]; omega, fun hb => ?_⟩, by omega, fun hb => ?_, he.trans hE, ?_⟩
              · exact ((r8.fix fa (by omega) (fun b hb => by omega)).fix gb.fix ⟨by omega, fun o m cc e => by have := nw _ _ _ _ e; omega⟩ (fun b hb => ⟨by omega, fun o m cc e => by have := nw _ _ _ _ e; omega⟩)).fix fz (by omega) (fun b hb => by omega)
              · have := gb.buf.fix (K := (· ≠ q)) (wb.sub fun b hb => by omega) fz
                simpa [adv, List.flatMap_append] using this
              · rw [fz.same b (by omega), gb.fix.same b ⟨by omega, fun o m cc e => by have := nw _ _ _ _ e; omega⟩, fa.same b (by omega), FA.same b ⟨by omega, by omega⟩, fA.same b hb]
              · have h1 := (rsymR_bad (s := s'.1) hb).2
                simp only [adv, List.length_append, List.length_cons, List.length_nil]; omega
              · have h1 := (rsymR_bad (s := s'.1) hb).2
                show (rsymR s'.1).2.xs.length < m
                omega
              (try simp only [wk, wl, wx, reduceLT, reduceEqDiff, Nat.reduceBEq, reduceIte, t0, t2, t4, t6])
              refine ⟨trivial, trivial, trivial, trivial, ?_⟩
              rw [wrap64 (by omega) (by omega)]
          · (try simp only [wk, wl, wx, reduceLT, reduceEqDiff, Nat.reduceBEq, reduceIte, tn, i64, decide_eq_false hp, un])
            (repeat refine WC.seq ?_)
            refine WC.cond (b := false) (by (try simp only [wk, wl, wx, reduceLT, reduceEqDiff, Nat.reduceBEq, reduceIte]); (try simp); (try omega)) (WC.exit ?_)
            (try simp only [wk, wl, wx, reduceLT, reduceEqDiff, Nat.reduceBEq, reduceIte])
            exact ⟨by trivial, _, sv, rfl, stop (by simp; omega), by (try simp only [wk, wl, wx, reduceLT, reduceEqDiff, Nat.reduceBEq, reduceIte, t0]), by (try simp only [wk, wl, wx, reduceLT, reduceEqDiff, Nat.reduceBEq, reduceIte, t2]), by (try simp only [wk, wl, wx, reduceLT, reduceEqDiff, Nat.reduceBEq, reduceIte, t4]), by (try simp only [wk, wl, wx, reduceLT, reduceEqDiff, Nat.reduceBEq, reduceIte, t6])⟩
        all_goals (try simp only [wk, wl, wx, reduceLT, reduceEqDiff, Nat.reduceBEq, reduceIte, t0, t2, t4, t6])
        all_goals (first | trivial | rfl | simp)
      · rintro e fr h6 ⟨rfl, ts, sv1, rfl, i6, t0, t2, t4, t6⟩
        have i6 : DI g h5 h1.next p0.xs.length rb q (fun zz => [.str (rtxtR p0).1, cv, dv, zz, .nils, .nils, .str []]) 89 5 (fun L => L.flatMap symV) (rsymsR b.length p0) h6 sv1 := i6
        have r6 := i6.rd
        have q6 : Has h6 q [.str (rtxtR p0).1, cv, dv, sv1, .nils, .nils, .str []] := i6.co
        have x6 := i6.fx.next
        have l6 : (rsymsR b.length p0).1.xs.length ≤ p0.xs.length := i6.xs
        (try simp only [wk, wl, wx, reduceLT, reduceEqDiff, Nat.reduceBEq, reduceIte])
        ((repeat refine WC.seq ?_); refine WC.run ?_)
        (try simp only [wk, wl, wx, reduceLT, reduceEqDiff, Nat.reduceBEq, reduceIte, t4])
        refine (cnt_ok r6 (by omega) (by omega)).mono fun v hc ⟨ec, rc, nc, fc⟩ => ?_
        subst ec
        have qc := q6.fix fc (by omega)
        have lc := cntR_le (rsymsR b.length p0).1
        (try simp only [wk, wl, wx, reduceLT, reduceEqDiff, Nat.reduceBEq, reduceIte])
        (repeat refine WC.seq ?_)
        refine WC.mono (Q := fun e fr hh => e = .normal ∧ ∃ ts sv, fr = ⟨ts, 143, [], 14, none⟩ ∧ DI g h6 h1.next p0.xs.length rb q (fun zz => [.str (rtxtR p0).1, cv, dv, sv1, zz, .nils, .str []]) 91 5 (fun L => L.flatMap relV) (eachR (fun x => x.1) (adv rrelR) b.length (cntR (rsymsR b.length p0).1).1 ((cntR (rsymsR b.length p0).1).2, [])) hh sv ∧ ts.get 0 = some s ∧ ts.get 2 = some (.ptr h.next 0) ∧ ts.get 4 = some (.ptr rb 0) ∧ ts.get 6 = some (.ptr q 0)) (WC.block ?_) ?_
        · refine WC.while (fun m fr hh => ∃ ts n' s' sv, fr = ⟨ts, 143, [], 14, none⟩ ∧ DI g h6 h1.next p0.xs.length rb q (fun zz => [.str (rtxtR p0).1, cv, dv, sv1, zz, .nils, .str []]) 91 5 (fun L => L.flatMap relV) s' hh sv ∧ n' < 2 ^ 63 ∧ (s'.1.bad = false → s'.1.xs.length < m) ∧ eachR (fun x => x.1) (adv rrelR) b.length (cntR (rsymsR b.length p0).1).1 ((cntR (rsymsR b.length p0).1).2, []) = eachR (fun x => x.1) (adv rrelR) m n' s' ∧ ts.get 0 = some s ∧ ts.get 2 = some (.ptr h.next 0) ∧ ts.get 4 = some (.ptr rb 0) ∧ ts.get 6 = some (.ptr q 0) ∧ ts.get 10 = some (i64 n')) ?_ ⟨_, (cntR (rsymsR b.length p0).1).1, ((cntR (rsymsR b.length p0).1).2, []), .nils, rfl, ⟨rc, qc, .nil, In.nils, ⟨by omega, fun b hb => fc.same b hb.2.1⟩, by show (cntR (rsymsR b.length p0).1).2.xs.length ≤ _; omega, Nat.zero_le _, fun _ => by show 0 + (cntR (rsymsR b.length p0).1).2.xs.length ≤ _; omega⟩, cntR_lt _, fun _ => by show (cntR (rsymsR b.length p0).1).2.xs.length < _; omega, rfl, ?_, ?_, ?_, ?_, ?_⟩
          · rintro m fr hh ⟨ts, n', s', sv, rfl, ii, hn', hm, he, t0, t2, t4, t6, tn⟩
            obtain ⟨bsl, bb, _, _⟩ := ii.rd
            have stop (hs : ¬ (0 < n' ∧ s'.1.bad = false)) : DI g h6 h1.next p0.xs.length rb q (fun zz => [.str (rtxtR p0).1, cv, dv, sv1, zz, .nils, .str []]) 91 5 (fun L => L.flatMap relV) (eachR (fun x => x.1) (adv rrelR) b.length (cntR (rsymsR b.length p0).1).1 ((cntR (rsymsR b.length p0).1).2, [])) hh sv := by
              rw [he]
              cases m with
              | zero => exact ii
              | succ m => rw [eachR, if_neg hs]; exact ii
            ((repeat refine WC.seq ?_); refine WC.run ?_)
            rcases Decidable.em (0 < n') with hp | hp
            · cases hbd : s'.1.bad with
              | true =>
                rw [hbd] at bb
                (try simp only [wk, wl, wx, reduceLT, reduceEqDiff, Nat.reduceBEq, reduceIte, tn, t4, i64, decide_eq_true hp, un, fa131_1, Nat.zero_add, bb.at ty4 rfl, Bool.not_true])
                (repeat refine WC.seq ?_)
                refine WC.cond (b := false) (by (try simp only [wk, wl, wx, reduceLT, reduceEqDiff, Nat.reduceBEq, reduceIte]); (try simp); (try omega)) (WC.exit ?_)
                (try simp only [wk, wl, wx, reduceLT, reduceEqDiff, Nat.reduceBEq, reduceIte])
                exact ⟨by trivial, _, sv, rfl, stop (by rw [hbd]; simp), by (try simp only [wk, wl, wx, reduceLT, reduceEqDiff, Nat.reduceBEq, reduceIte, t0]), by (try simp only [wk, wl, wx, reduceLT, reduceEqDiff, Nat.reduceBEq, reduceIte, t2]), by (try simp only [wk, wl, wx, reduceLT, reduceEqDiff, Nat.reduceBEq, reduceIte, t4]), by (try simp only [wk, wl, wx, reduceLT, reduceEqDiff, Nat.reduceBEq, reduceIte, t6])⟩
              | false =>
                rw [hbd] at bb
                (try simp only [wk, wl, wx, reduceLT, reduceEqDiff, Nat.reduceBEq, reduceIte, tn, t4, i64, decide_eq_true hp, un, fa131_1, Nat.zero_add, bb.at ty4 rfl, Bool.not_false])
                (repeat refine WC.seq ?_)
                refine WC.cond (b := true) (by (try simp only [wk, wl, wx, reduceLT, reduceEqDiff, Nat.reduceBEq, reduceIte]); (try simp); (try omega)) (WC.skip ?_)
                (try simp only [wk, wl, wx, reduceLT, reduceEqDiff, Nat.reduceBEq, reduceIte])
                have hmb := hm hbd
                obtain ⟨m, rfl⟩ : ∃ m', m = m' + 1 := ⟨m - 1, by omega⟩
                have hE : eachR (fun x => x.1) (adv rrelR) (m + 1) n' s' = eachR (fun x => x.1) (adv rrelR) m (n' - 1) (adv rrelR s') := by rw [eachR, if_pos ⟨hp, hbd⟩]
                obtain ⟨r0, o0, bu0, nw, fA, lA, lnA, smA⟩ := ii
                have sm0 := smA hbd
                have xA := fA.next
                obtain ⟨k0, hk0⟩ : ∃ k0, k0 = hh := ⟨hh, rfl⟩
                subst hk0
                have F0 := Fix.refl (· ≠ rb) k0
                (repeat refine WC.seq ?_)
                refine WC.block ?_
                ((repeat refine WC.seq ?_); refine WC.run ?_)
                (try simp only [wk, wl, wx, reduceLT, reduceEqDiff, Nat.reduceBEq, reduceIte, t4])
                refine (rnum_ok r0 (by omega) (by omega)).mono fun v k1 ⟨e1, r1, n1, f1⟩ => ?_
                subst e1
                have l1 := rnumR_le s'.1
                have F1 : Fix (· ≠ rb) k0 k1 := F0.trans f1
                (try simp only [wk, wl, wx, reduceLT, reduceEqDiff, Nat.reduceBEq, reduceIte, t4, build91])
                refine (rnum_ok r1 (by omega) (by omega)).mono fun v k2 ⟨e2, r2, n2, f2⟩ => ?_
                subst e2
                have l2 := rnumR_le (rnumR s'.1).2
                have F2 : Fix (· ≠ rb) k0 k2 := F1.trans f2
                (try simp only [wk, wl, wx, reduceLT, reduceEqDiff, Nat.reduceBEq, reduceIte, t4, build91])
                refine (rnum_ok r2 (by omega) (by omega)).mono fun v k3 ⟨e3, r3, n3, f3⟩ => ?_
                subst e3
                have l3 := rnumR_le (rnumR (rnumR s'.1).2).2
                have F3 : Fix (· ≠ rb) k0 k3 := F2.trans f3
                (try simp only [wk, wl, wx, reduceLT, reduceEqDiff, Nat.reduceBEq, reduceIte, t4, build91])
                refine wop_alloc ty91 ?_
                intro k4 b4 n4 f4
                (try simp only [wk, wl, wx, reduceLT, reduceEqDiff, Nat.reduceBEq, reduceIte])
                refine sat_store b4 ty91 rfl (Nat.le_refl 5) rfl ?_
                intro k5 b5 n5 f5
                have b5 : Has k5 k3.next [i64 (rnumR s'.1).1, i64 (rnumR (rnumR s'.1).2).1, i64 (rnumR (rnumR (rnumR s'.1).2).2).1, .str [], i64 0] := b5
                have r5 := (r3.fix f4 (by omega) (fun b hb => by omega)).fix f5 (by omega) (fun b hb => by omega)
                (try simp only [wk, wl, wx, reduceLT, reduceEqDiff, Nat.reduceBEq, reduceIte])
                ((repeat refine WC.seq ?_); refine WC.run ?_)
                (try simp only [wk, wl, wx, reduceLT, reduceEqDiff, Nat.reduceBEq, reduceIte, t4])
                refine (rtxt_ok r5 (by omega) (by omega)).mono fun v k6 ⟨e6, r6, n6, f6⟩ => ?_
                subst e6
                have l6 := rtxtR_le (rnumR (rnumR (rnumR s'.1).2).2).2
                (try simp only [wk, wl, wx, reduceLT, reduceEqDiff, Nat.reduceBEq, reduceIte, t4])
                refine (rnum_ok r6 (by omega) (by omega)).mono fun v k6b ⟨e6b, r6b, n6b, f6b⟩ => ?_
                subst e6b
                have b6 := (b5.fix f6 (by omega)).fix f6b (by omega)
                (try simp only [wk, wl, wx, reduceLT, reduceEqDiff, Nat.reduceBEq, reduceIte, fa91_3, fa91_4, Nat.zero_add])
                refine sat_store b6 ty9 rfl (show 3 + 1 ≤ 5 from by decide) rfl ?_
                intro k7 b7 n7 f7
                (try simp only [wk, wl, wx, reduceLT, reduceEqDiff, Nat.reduceBEq, reduceIte, fa91_4, Nat.zero_add])
                refine sat_store (o := 4) b7 ty2 rfl (show 4 + 1 ≤ 5 from by decide) rfl ?_
                intro k8 b8 n8 f8
                have b8 : Has k8 k3.next (relV (rrelR s'.1).1) := by unfold rrelR; exact b8
                have l8 : loadP (E g) k8 91 (.ptr k3.next 0) = some (.agg (relV (rrelR s'.1).1)) := b8.agg ty91 rfl (show 0 + 5 ≤ (relV (rrelR s'.1).1).length from Nat.le_refl 5)
                have FA : Fix (fun b => b < k0.next ∧ b ≠ rb) k0 k8 := ⟨by omega, fun b hb => by rw [f8.same b (by omega), f7.same b (by omega), f6b.same b hb.2, f6.same b hb.2, f5.same b (by omega), f4.same b (by omega), F3.same b hb.2]⟩
                have r8 : Rd g k8 (· < h1.next) rb (rrelR s'.1).2 := by
                  unfold rrelR
                  exact (r6b.fix f7 (by omega) (fun b hb => by omega)).fix f8 (by omega) (fun b hb => by omega)
                have o8 := o0.fix FA ⟨by omega, by omega⟩
                have bu8 := bu0.fix (nw.sub fun b hb => (⟨by omega, by omega⟩ : b < k0.next ∧ b ≠ rb)) FA
                (try simp only [wk, wl, wx, reduceLT, reduceEqDiff, Nat.reduceBEq, reduceIte])
                ((repeat refine WC.seq ?_); refine WC.run ?_)
                (try simp only [wk, wl, wx, reduceLT, reduceEqDiff, Nat.reduceBEq, reduceIte, t6, fa27_4, Nat.zero_add, o8.at ty24 rfl, l8])
                refine sat_buildSlice (cs := relV (rrelR s'.1).1) ty24 rfl ty91 rfl (by decide) (by decide) (fill5 (relV_length (rrelR s'.1).1)) rfl ?_
                intro ka la na fa
                have oa := o8.fix fa (by omega)
                have bua := bu8.fix (nw.sub fun b hb => by omega) fa
                (try simp only [wk, wl, wx, reduceLT, reduceEqDiff, Nat.reduceBEq, reduceIte, t6])
                refine sat_grow bua (nw.sub fun b hb => by omega) ty24 rfl ty24 (.inl ⟨_, rfl⟩) ty91 rfl (by decide) (by decide) la.sl.len la.sl.cells (by rfl) (relV_one _) (by simp; omega) ?_
                intro sw kb gb
                have xb := gb.fix.next
                have ob := oa.fix gb.fix ⟨by omega, fun o m cc e => by have := nw _ _ _ _ e; omega⟩
                have wb : In (fun b => h6.next ≤ b ∧ b < kb.next) sw := fun b o n c e => ⟨by
                  rcases gb.own _ _ _ _ e with q | ⟨o, k, c, q⟩
                  · omega
                  · exact (nw _ _ _ _ q).1, gb.low _ _ _ _ e⟩
                (try simp only [wk, wl, wx, reduceLT, reduceEqDiff, Nat.reduceBEq, reduceIte, t6, fa27_4, Nat.zero_add])
                refine sat_store ob ty24 (by rw [gb.buf.sl.one.1]; rfl) (by simp) (by rw [gb.buf.sl.one.1]; simp [gb.buf.sl.one.2]) ?_
                intro kz oz nz fz
                rw [gb.buf.sl.one.1] at oz
                (try simp only [wk, wl, wx, reduceLT, reduceEqDiff, Nat.reduceBEq, reduceIte])
                ((repeat refine WC.seq ?_); refine WC.run ?_)
                (try simp only [wk, wl, wx, reduceLT, reduceEqDiff, Nat.reduceBEq, reduceIte, tn, bin_sub, i64])
                have hle := rrelR_le s'.1
                refine ⟨m, by omega, _, n' - 1, adv rrelR s', sw, rfl, ⟨?_, oz, ?_, wb.sub fun b hb => by omega, ⟨by omega, fun b hb => ?_⟩, by show (rrelR s'.1).2.xs.length ≤ _; omega, by simp [adv]; omega, fun hb => ?_⟩, by omega, fun hb => ?_, he.trans hE, ?_⟩
                · exact ((r8.fix fa (by omega) (fun b hb => by omega)).fix gb.fix ⟨by omega, fun o m cc e => by have := nw _ _ _ _ e; omega⟩ (fun b hb => ⟨by omega, fun o m cc e => by have := nw _ _ _ _ e; omega⟩)).fix fz (by omega) (fun b hb => by omega)
                · have := gb.buf.fix (K := (· ≠ q)) (wb.sub fun b hb => by omega) fz
                  simpa [adv, List.flatMap_append] using this
                · rw [fz.same b (by omega), gb.fix.same b ⟨by omega, fun o m cc e => by have := nw _ _ _ _ e; omega⟩, fa.same b (by omega), FA.same b ⟨by omega, by omega⟩, fA.same b hb]
                · have h1 := (rrelR_bad (s := s'.1) hb).2
                  simp only [adv, List.length_append, List.length_cons, List.length_nil]; omega
                · have h1 := (rrelR_bad (s := s'.1) hb).2
                  show (rrelR s'.1).2.xs.length < m
                  omega
                (try simp only [wk, wl, wx, reduceLT, reduceEqDiff, Nat.reduceBEq, reduceIte, t0, t2, t4, t6])
                refine ⟨trivial, trivial, trivial, trivial, ?_⟩
                rw [wrap64 (by omega) (by omega)]
            · (try simp only [wk, wl, wx, reduceLT, reduceEqDiff, Nat.reduceBEq, reduceIte, tn, i64, decide_eq_false hp, un])
              (repeat refine WC.seq ?_)
              refine WC.cond (b := false) (by (try simp only [wk, wl, wx, reduceLT, reduceEqDiff, Nat.reduceBEq, reduceIte]); (try simp); (try omega)) (WC.exit ?_)
              (try simp only [wk, wl, wx, reduceLT, reduceEqDiff, Nat.reduceBEq, reduceIte])
              exact ⟨by trivial, _, sv, rfl, stop (by simp; omega), by (try simp only [wk, wl, wx, reduceLT, reduceEqDiff, Nat.reduceBEq, reduceIte, t0]), by (try simp only [wk, wl, wx, reduceLT, reduceEqDiff, Nat.reduceBEq, reduceIte, t2]), by (try simp only [wk, wl, wx, reduceLT, reduceEqDiff, Nat.reduceBEq, reduceIte, t4]), by (try simp only [wk, wl, wx, reduceLT, reduceEqDiff, Nat.reduceBEq, reduceIte, t6])⟩
          all_goals (try simp only [wk, wl, wx, reduceLT, reduceEqDiff, Nat.reduceBEq, reduceIte, t0, t2, t4, t6])
          all_goals (first | trivial | rfl | simp)
        · rintro e fr h7 ⟨rfl, ts, sv2, rfl, i7, t0, t2, t4, t6⟩
          have i7 : DI g h6 h1.next p0.xs.length rb q (fun zz => [.str (rtxtR p0).1, cv, dv, sv1, zz, .nils, .str []]) 91 5 (fun L => L.flatMap relV) (rrelsR b.length p0) h7 sv2 := i7
          have r7 := i7.rd
          have q7 : Has h7 q [.str (rtxtR p0).1, cv, dv, sv1, sv2, .nils, .str []] := i7.co
          have x7 := i7.fx.next
          have l7 : (rrelsR b.length p0).1.xs.length ≤ p0.xs.length := i7.xs
          (try simp only [wk, wl, wx, reduceLT, reduceEqDiff, Nat.reduceBEq, reduceIte])
          ((repeat refine WC.seq ?_); refine WC.run ?_)
          (try simp only [wk, wl, wx, reduceLT, reduceEqDiff, Nat.reduceBEq, reduceIte, t4])
          refine (cnt_ok r7 (by omega) (by omega)).mono fun v hc ⟨ec, rc, nc, fc⟩ => ?_
          subst ec
          have qc := q7.fix fc (by omega)
          have lc := cntR_le (rrelsR b.length p0).1
          (try simp only [wk, wl, wx, reduceLT, reduceEqDiff, Nat.reduceBEq, reduceIte])
          (repeat refine WC.seq ?_)
          refine WC.mono (Q := fun e fr hh => e = .normal ∧ ∃ ts sv, fr = ⟨ts, 143, [], 14, none⟩ ∧ DI g h7 h1.next p0.xs.length rb q (fun zz => [.str (rtxtR p0).1, cv, dv, sv1, sv2, zz, .str []]) 9 1 (fun L => L.map V.str) (eachR (fun x => x.1) (adv rtxtR) b.length (cntR (rrelsR b.length p0).1).1 ((cntR (rrelsR b.length p0).1).2, [])) hh sv ∧ ts.get 0 = some s ∧ ts.get 2 = some (.ptr h.next 0) ∧ ts.get 4 = some (.ptr rb 0) ∧ ts.get 6 = some (.ptr q 0)) (WC.block ?_) ?_
          · refine WC.while (fun m fr hh => ∃ ts n' s' sv, fr = ⟨ts, 143, [], 14, none⟩ ∧ DI g h7 h1.next p0.xs.length rb q (fun zz => [.str (rtxtR p0).1, cv, dv, sv1, sv2, zz, .str []]) 9 1 (fun L => L.map V.str) s' hh sv ∧ n' < 2 ^ 63 ∧ (s'.1.bad = false → s'.1.xs.length < m) ∧ eachR (fun x => x.1) (adv rtxtR) b.length (cntR (rrelsR b.length p0).1).1 ((cntR (rrelsR b.length p0).1).2, []) = eachR (fun x => x.1) (adv rtxtR) m n' s' ∧ ts.get 0 = some s ∧ ts.get 2 = some (.ptr h.next 0) ∧ ts.get 4 = some (.ptr rb 0) ∧ ts.get 6 = some (.ptr q 0) ∧ ts.get 12 = some (i64 n')) ?_ ⟨_, (cntR (rrelsR b.length p0).1).1, ((cntR (rrelsR b.length p0).1).2, []), .nils, rfl, ⟨rc, qc, .nil, In.nils, ⟨by omega, fun b hb => fc.same b hb.2.1⟩, by show (cntR (rrelsR b.length p0).1).2.xs.length ≤ _; omega, Nat.zero_le _, fun _ => by show 0 + (cntR (rrelsR b.length p0).1).2.xs.length ≤ _; omega⟩, cntR_lt _, fun _ => by show (cntR (rrelsR b.length p0).1).2.xs.length < _; omega, rfl, ?_, ?_, ?_, ?_, ?_⟩
            · rintro m fr hh ⟨ts, n', s', sv, rfl, ii, hn', hm, he, t0, t2, t4, t6, tn⟩
              obtain ⟨bsl, bb, _, _⟩ := ii.rd
              have stop (hs : ¬ (0 < n' ∧ s'.1.bad = false)) : DI g h7 h1.next p0.xs.length rb q (fun zz => [.str (rtxtR p0).1, cv, dv, sv1, sv2, zz, .str []]) 9 1 (fun L => L.map V.str) (eachR (fun x => x.1) (adv rtxtR) b.length (cntR (rrelsR b.length p0).1).1 ((cntR (rrelsR b.length p0).1).2, [])) hh sv := by
                rw [he]
                cases m with
                | zero => exact ii
                | succ m => rw [eachR, if_neg hs]; exact ii
              ((repeat refine WC.seq ?_); refine WC.run ?_)
              rcases Decidable.em (0 < n') with hp | hp
              · cases hbd : s'.1.bad with
                | true =>
                  rw [hbd] at bb
                  (try simp only [wk, wl, wx, reduceLT, reduceEqDiff, Nat.reduceBEq, reduceIte, tn, t4, i64, decide_eq_true hp, un, fa131_1, Nat.zero_add, bb.at ty4 rfl, Bool.not_true])
                  (repeat refine WC.seq ?_)
                  refine WC.cond (b := false) (by (try simp only [wk, wl, wx, reduceLT, reduceEqDiff, Nat.reduceBEq, reduceIte]); (try simp); (try omega)) (WC.exit ?_)
                  (try simp only [wk, wl, wx, reduceLT, reduceEqDiff, Nat.reduceBEq, reduceIte])
                  exact ⟨by trivial, _, sv, rfl, stop (by rw [hbd]; simp), by (try simp only [wk, wl, wx, reduceLT, reduceEqDiff, Nat.reduceBEq, reduceIte, t0]), by (try simp only [wk, wl, wx, reduceLT, reduceEqDiff, Nat.reduceBEq, reduceIte, t2]), by (try simp only [wk, wl, wx, reduceLT, reduceEqDiff, Nat.reduceBEq, reduceIte, t4]), by (try simp only [wk, wl, wx, reduceLT, reduceEqDiff, Nat.reduceBEq, reduceIte, t6])⟩
                | false =>
                  rw [hbd] at bb
                  (try simp only [wk, wl, wx, reduceLT, reduceEqDiff, Nat.reduceBEq, reduceIte, tn, t4, i64, decide_eq_true hp, un, fa131_1, Nat.zero_add, bb.at ty4 rfl, Bool.not_false])
                  (repeat refine WC.seq ?_)
                  refine WC.cond (b := true) (by (try simp only [wk, wl, wx, reduceLT, reduceEqDiff, Nat.reduceBEq, reduceIte]); (try simp); (try omega)) (WC.skip ?_)
                  (try simp only [wk, wl, wx, reduceLT, reduceEqDiff, Nat.reduceBEq, reduceIte])
                  have hmb := hm hbd
                  obtain ⟨m, rfl⟩ : ∃ m', m = m' + 1 := ⟨m - 1, by omega⟩
                  have hE : eachR (fun x => x.1) (adv rtxtR) (m + 1) n' s' = eachR (fun x => x.1) (adv rtxtR) m (n' - 1) (adv rtxtR s') := by rw [eachR, if_pos ⟨hp, hbd⟩]
                  obtain ⟨r0, o0, bu0, nw, fA, lA, lnA, smA⟩ := ii
                  have sm0 := smA hbd
                  have xA := fA.next
                  obtain ⟨k0, hk0⟩ : ∃ k0, k0 = hh := ⟨hh, rfl⟩
                  subst hk0
                  have F0 := Fix.refl (· ≠ rb) k0
                  (repeat refine WC.seq ?_)
                  refine WC.block ?_
                  ((repeat refine WC.seq ?_); refine WC.draw (plans := pl14_21) (by kernel_rfl) ?_; simp only [pl14_21, List.mem_cons, List.not_mem_nil, or_false, forall_eq_or_imp, forall_eq])
                  (try simp (maxSteps := 2000000) only [wk, wl, wx, reduceLT, reduceEqDiff, Nat.reduceBEq, reduceIte, wd, Chk, and_true, true_and, t4, t6, fa27_5, Nat.zero_add, o0.at ty25 rfl])
                  refine (rtxt_ok r0 (by omega) (by omega)).mono fun v k1 ⟨e1, r1, n1, f1'⟩ => ?_
                  subst e1
                  have FA : Fix (fun b => b < k0.next ∧ b ≠ rb) k0 k1 := f1'.sub fun b hb => hb.2
                  have o1 := o0.fix FA ⟨by omega, by omega⟩
                  have bu1 := bu0.fix (nw.sub fun b hb => (⟨by omega, by omega⟩ : b < k0.next ∧ b ≠ rb)) FA
                  (try simp (maxSteps := 2000000) only [wk, wl, wx, reduceLT, reduceEqDiff, Nat.reduceBEq, reduceIte, wd, Chk, and_true, true_and, t6, fa27_5, Nat.zero_add, o1.at ty25 rfl])
                  refine sat_slice1 ty25 rfl ty9 rfl rfl rfl ?_
                  intro ka la na fa
                  have oa := o1.fix fa (by omega)
                  have bua := bu1.fix (nw.sub fun b hb => by omega) fa
                  (try simp (maxSteps := 2000000) only [wk, wl, wx, reduceLT, reduceEqDiff, Nat.reduceBEq, reduceIte, wd, Chk, and_true, true_and, t6, fa27_5, Nat.zero_add, oa.at ty25 rfl])
                  refine sat_grow bua (nw.sub fun b hb => by omega) ty25 rfl ty25 (.inl ⟨_, rfl⟩) ty9 rfl (by decide) (by decide) la.sl.len la.sl.cells (by rfl) (by rfl) (by simp; omega) ?_
                  intro sw kb gb
                  have xb := gb.fix.next
                  have ob := oa.fix gb.fix ⟨by omega, fun o m cc e => by have := nw _ _ _ _ e; omega⟩
                  have wb : In (fun b => h7.next ≤ b ∧ b < kb.next) sw := fun b o n c e => ⟨by
                    rcases gb.own _ _ _ _ e with q | ⟨o, k, c, q⟩
                    · omega
                    · exact (nw _ _ _ _ q).1, gb.low _ _ _ _ e⟩
                  (try simp (maxSteps := 2000000) only [wk, wl, wx, reduceLT, reduceEqDiff, Nat.reduceBEq, reduceIte, wd, Chk, and_true, true_and, t6, fa27_5, Nat.zero_add])
                  refine sat_store ob ty25 (by rw [gb.buf.sl.one.1]; rfl) (by simp) (by rw [gb.buf.sl.one.1]; simp [gb.buf.sl.one.2]) ?_
                  intro kz oz nz fz
                  rw [gb.buf.sl.one.1] at oz
                  (try simp (maxSteps := 2000000) only [wk, wl, wx, reduceLT, reduceEqDiff, Nat.reduceBEq, reduceIte, wd, Chk, and_true, true_and])
                  ((repeat refine WC.seq ?_); refine WC.run ?_)
                  (try simp only [wk, wl, wx, reduceLT, reduceEqDiff, Nat.reduceBEq, reduceIte, tn, bin_sub, i64])
                  have hle := rtxtR_le s'.1
                  refine ⟨m, by omega, _, n' - 1, adv rtxtR s', sw, rfl, ⟨?_, oz, ?_, wb.sub fun b hb => by omega, ⟨by omega, fun b hb => ?_⟩, by show (rtxtR s'.1).2.xs.length ≤ _; omega, by simp [adv]; omega, fun hb => ?_⟩, by omega, fun hb => ?_, he.trans hE, ?_⟩
                  · exact ((r1.fix fa (by omega) (fun b hb => by omega)).fix gb.fix ⟨by omega, fun o m cc e => by have := nw _ _ _ _ e; omega⟩ (fun b hb => ⟨by omega, fun o m cc e => by have := nw _ _ _ _ e; omega⟩)).fix fz (by omega) (fun b hb => by omega)
                  · have := gb.buf.fix (K := (· ≠ q)) (wb.sub fun b hb => by omega) fz
                    simpa [adv, List.flatMap_append] using this
                  · rw [fz.same b (by omega), gb.fix.same b ⟨by omega, fun o m cc e => by have := nw _ _ _ _ e; omega⟩, fa.same b (by omega), FA.same b ⟨by omega, by omega⟩, fA.same b hb]
                  · have h1 := (rtxtR_bad (s := s'.1) hb).2
                    simp only [adv, List.length_append, List.length_cons, List.length_nil]; omega
                  · have h1 := (rtxtR_bad (s := s'.1) hb).2
                    show (rtxtR s'.1).2.xs.length < m
                    omega
                  (try simp only [wk, wl, wx, reduceLT, reduceEqDiff, Nat.reduceBEq, reduceIte, t0, t2, t4, t6])
                  refine ⟨trivial, trivial, trivial, trivial, ?_⟩
                  rw [wrap64 (by omega) (by omega)]
              · (try simp only [wk, wl, wx, reduceLT, reduceEqDiff, Nat.reduceBEq, reduceIte, tn, i64, decide_eq_false hp, un])
                (repeat refine WC.seq ?_)
                refine WC.cond (b := false) (by (try simp only [wk, wl, wx, reduceLT, reduceEqDiff, Nat.reduceBEq, reduceIte]); (try simp); (try omega)) (WC.exit ?_)
                (try simp only [wk, wl, wx, reduceLT, reduceEqDiff, Nat.reduceBEq, reduceIte])
                exact ⟨by trivial, _, sv, rfl, stop (by simp; omega), by (try simp only [wk, wl, wx, reduceLT, reduceEqDiff, Nat.reduceBEq, reduceIte, t0]), by (try simp only [wk, wl, wx, reduceLT, reduceEqDiff, Nat.reduceBEq, reduceIte, t2]), by (try simp only [wk, wl, wx, reduceLT, reduceEqDiff, Nat.reduceBEq, reduceIte, t4]), by (try simp only [wk, wl, wx, reduceLT, reduceEqDiff, Nat.reduceBEq, reduceIte, t6])⟩
            all_goals (try simp only [wk, wl, wx, reduceLT, reduceEqDiff, Nat.reduceBEq, reduceIte, t0, t2, t4, t6])
            all_goals (first | trivial | rfl | simp)
          · rintro e fr h8 ⟨rfl, ts, sv3, rfl, i8, t0, t2, t4, t6⟩
            have i8 : DI g h7 h1.next p0.xs.length rb q (fun zz => [.str (rtxtR p0).1, cv, dv, sv1, sv2, zz, .str []]) 9 1 (fun L => L.map V.str) (rneedsR b.length p0) h8 sv3 := i8
            have r8 := i8.rd
            have q8 : Has h8 q [.str (rtxtR p0).1, cv, dv, sv1, sv2, sv3, .str []] := i8.co
            have x8 := i8.fx.next
            have l8 : (rneedsR b.length p0).1.xs.length ≤ p0.xs.length := i8.xs
            (try simp only [wk, wl, wx, reduceLT, reduceEqDiff, Nat.reduceBEq, reduceIte])
            ((repeat refine WC.seq ?_); refine WC.run ?_)
            (try simp only [wk, wl, wx, reduceLT, reduceEqDiff, Nat.reduceBEq, reduceIte, t4])
            refine (rtxt_ok r8 (by omega) (by omega)).mono fun v h9 ⟨e9, r9, n9, f9⟩ => ?_
            subst e9
            have q9 := q8.fix f9 (by omega)
            (try simp only [wk, wl, wx, reduceLT, reduceEqDiff, Nat.reduceBEq, reduceIte, t6, fa27_6, Nat.zero_add])
            refine sat_store (o := 6) q9 ty9 rfl (show 6 + 1 ≤ 7 from by decide) rfl ?_
            intro hz qz nz fz
            have qz : Has hz q ((⟨cv, dv, sv1, sv2, sv3⟩ : Oc).cells (robjR b.length p0).1) := qz
            have G8 : Fix (fun b => b < h8.next ∧ b ≠ rb ∧ b ≠ q) h8 hz := ⟨by omega, fun b hb => by rw [fz.same b hb.2.2, f9.same b hb.2.1]⟩
            have G7 : Fix (fun b => b < h7.next ∧ b ≠ rb ∧ b ≠ q) h7 hz := i8.fx.trans (G8.sub fun b hb => ⟨by omega, hb.2⟩)
            have G6 : Fix (fun b => b < h6.next ∧ b ≠ rb ∧ b ≠ q) h6 hz := i7.fx.trans (G7.sub fun b hb => ⟨by omega, hb.2⟩)
            have G5 : Fix (fun b => b < h5.next ∧ b ≠ rb ∧ b ≠ q) h5 hz := i6.fx.trans (G6.sub fun b hb => ⟨by omega, hb.2⟩)
            have Gh : Fix (· < h.next) h hz := ⟨by omega, fun c hc => by rw [G5.same c ⟨by omega, by omega, by omega⟩, F5.same c ⟨by omega, by omega⟩, F2.same c (by omega), f1.same c hc]⟩
            have bz := b5.fix G5 ⟨by omega, by omega, by omega⟩
            have hbz := Sl.fix hb5 (hs1.sub fun b hb => (⟨by omega, by omega, by omega⟩ : b < h5.next ∧ b ≠ rb ∧ b ≠ q)) G5
            have obz : Ob g hz (fun b => h2.next ≤ b ∧ b < hz.next) ⟨cv, dv, sv1, sv2, sv3⟩ (robjR b.length p0).1 :=
              ⟨Sl.fix cv5 (cw.sub fun b hb => (⟨by omega, by omega, by omega⟩ : b < h5.next ∧ b ≠ rb ∧ b ≠ q)) G5, Sl.fix dv5 (dw.sub fun b hb => (⟨by omega, by omega, by omega⟩ : b < h5.next ∧ b ≠ rb ∧ b ≠ q)) G5,
                (i6.bu.fix (i6.nw.sub fun b hb => (⟨by omega, by omega, by omega⟩ : b < h6.next ∧ b ≠ rb ∧ b ≠ q)) G6).sl, (i7.bu.fix (i7.nw.sub fun b hb => (⟨by omega, by omega, by omega⟩ : b < h7.next ∧ b ≠ rb ∧ b ≠ q)) G7).sl, (i8.bu.fix (i8.nw.sub fun b hb => (⟨by omega, by omega, by omega⟩ : b < h8.next ∧ b ≠ rb ∧ b ≠ q)) G8).sl,
                cw.sub fun b hb => by omega, dw.sub fun b hb => by omega, i6.nw.sub fun b hb => by omega, i7.nw.sub fun b hb => by omega, i8.nw.sub fun b hb => by omega⟩
            have rz := r9.fix fz (by omega) (fun b hb => by omega)
            have fit : Fits (robjR b.length p0).1 := ⟨by have := rtxtR_out (e1R p0); have := e1R_le p0; show (rtxtR (e1R p0)).1.length < _; omega, by have := rtxtR_out (e1R (e1R p0)); have := e1R_le (e1R p0); have := e1R_le p0; show (rtxtR (e1R (e1R p0))).1.length < _; omega, by have := i6.ln; show (rsymsR b.length p0).2.length < _; omega, by have := i7.ln; show (rrelsR b.length p0).2.length < _; omega, by have := i8.ln; show (rneedsR b.length p0).2.length < _; omega⟩
            have lz : loadP (E g) hz 27 (.ptr q 0) = some (.agg ((⟨cv, dv, sv1, sv2, sv3⟩ : Oc).cells (robjR b.length p0).1)) := qz.agg ty27 rfl (Nat.le_refl 7)
            have hd (hc : (robjR b.length p0).2 = true ∨ checkE (robjR b.length p0).1 ≠ 0 ∨ encB (robjR b.length p0).1 ≠ b) : rdecP b = (zeroO, 12) := by
              unfold rdecP; rw [if_neg (not_not_intro hoe), hp0, if_pos hc]
            (try simp only [wk, wl, wx, reduceLT, reduceEqDiff, Nat.reduceBEq, reduceIte])
            obtain ⟨bs, rz1, rz2, rz3⟩ := rz
            have hbad : (rtxtR (rneedsR b.length p0).1).2.bad = (robjR b.length p0).2 := rfl
            rw [hbad] at rz1
            ((repeat refine WC.seq ?_); refine WC.run ?_)
            cases hbd : (robjR b.length p0).2 with
            | true =>
              rw [hbd] at rz1
              (try simp only [wk, wl, wx, reduceLT, reduceEqDiff, Nat.reduceBEq, reduceIte, t4, fa131_1, Nat.zero_add, rz1.at ty4 rfl])
              (repeat refine WC.seq ?_)
              refine WC.cond (b := true) (by (try simp only [wk, wl, wx, reduceLT, reduceEqDiff, Nat.reduceBEq, reduceIte]); (try simp); (try omega)) ?_
              ((repeat refine WC.seq ?_); refine WC.run ?_)
              (try simp only [wk, wl, wx, reduceLT, reduceEqDiff, Nat.reduceBEq, reduceIte, t2, build27_0])
              refine sat_store bz ty27 rfl (Nat.le_refl 7) rfl ?_
              intro hf bf nf ff
              have lf : loadP (E g) hf 27 (.ptr h.next 0) = some (.agg [.str [], .nils, .nils, .nils, .nils, .nils, .str []]) := bf.agg ty27 rfl (Nat.le_refl 7)
              (try simp only [wk, wl, wx, reduceLT, reduceEqDiff, Nat.reduceBEq, reduceIte])
              refine WC.ret ?_
              (try simp only [wk, wl, wx, reduceLT, reduceEqDiff, Nat.reduceBEq, reduceIte, t2, lf])
              rw [hd (.inl hbd)]
              exact ⟨⟨by omega, fun c hc => by rw [ff.same c (by omega), Gh.same c hc]⟩, ⟨.nils, .nils, .nils, .nils, .nils⟩, rfl, zeroO_ob⟩
            | false =>
              rw [hbd] at rz1
              (try simp only [wk, wl, wx, reduceLT, reduceEqDiff, Nat.reduceBEq, reduceIte, t4, fa131_1, Nat.zero_add, rz1.at ty4 rfl])
              (repeat refine WC.seq ?_)
              refine WC.cond (b := false) (by (try simp only [wk, wl, wx, reduceLT, reduceEqDiff, Nat.reduceBEq, reduceIte]); (try simp); (try omega)) (WC.skip ?_)
              (try simp only [wk, wl, wx, reduceLT, reduceEqDiff, Nat.reduceBEq, reduceIte])
              ((repeat refine WC.seq ?_); refine WC.run ?_)
              (try simp only [wk, wl, wx, reduceLT, reduceEqDiff, Nat.reduceBEq, reduceIte, t6, lz])
              refine (rencode_ok (obz.up fun b hb => hb.2) fit).mono fun v he ⟨Ge, ce1, ce2⟩ => ?_
              have xe := Ge.next
              have be := bz.fix Ge (by omega)
              have hbe := Sl.fix hbz (hs1.sub fun b hb => by omega) Ge
              have obe := obz.fix Ge (fun b hb => hb.2)
              have le : loadP (E g) he 27 (.ptr q 0) = some (.agg ((⟨cv, dv, sv1, sv2, sv3⟩ : Oc).cells (robjR b.length p0).1)) := (qz.fix Ge (by omega)).agg ty27 rfl (Nat.le_refl 7)
              have Fe : Kept h he := Gh.trans (Ge.sub fun b hb => by omega)
              rcases (Decidable.em (checkE (robjR b.length p0).1 = 0)).symm with hck | hck
              · have hv := ce1 hck
                subst hv
                have hne : ((checkE (robjR b.length p0).1) != (0 : Int)) = true := by simpa using hck
                (try simp only [wk, wl, wx, reduceLT, reduceEqDiff, Nat.reduceBEq, reduceIte])
                ((repeat refine WC.seq ?_); refine WC.run ?_)
                (try simp only [wk, wl, wx, reduceLT, reduceEqDiff, Nat.reduceBEq, reduceIte, un, i64, hne])
                (repeat refine WC.seq ?_)
                refine WC.cond (b := true) (by (try simp only [wk, wl, wx, reduceLT, reduceEqDiff, Nat.reduceBEq, reduceIte]); (try simp); (try omega)) ?_
                ((repeat refine WC.seq ?_); refine WC.run ?_)
                (try simp only [wk, wl, wx, reduceLT, reduceEqDiff, Nat.reduceBEq, reduceIte, t2, build27_0])
                refine sat_store be ty27 rfl (Nat.le_refl 7) rfl ?_
                intro hf bf nf ff
                have lf : loadP (E g) hf 27 (.ptr h.next 0) = some (.agg [.str [], .nils, .nils, .nils, .nils, .nils, .str []]) := bf.agg ty27 rfl (Nat.le_refl 7)
                (try simp only [wk, wl, wx, reduceLT, reduceEqDiff, Nat.reduceBEq, reduceIte])
                refine WC.ret ?_
                (try simp only [wk, wl, wx, reduceLT, reduceEqDiff, Nat.reduceBEq, reduceIte, t2, lf])
                rw [hd (.inr (.inl hck))]
                exact ⟨⟨by omega, fun c hc => by rw [ff.same c (by omega), Fe.same c hc]⟩, ⟨.nils, .nils, .nils, .nils, .nils⟩, rfl, zeroO_ob⟩
              · obtain ⟨sa, hv, sb, sc⟩ := ce2 hck
                subst hv
                have hne : ((0 : Int) != (0 : Int)) = false := rfl
                (try simp only [wk, wl, wx, reduceLT, reduceEqDiff, Nat.reduceBEq, reduceIte])
                ((repeat refine WC.seq ?_); refine WC.run ?_)
                (try simp only [wk, wl, wx, reduceLT, reduceEqDiff, Nat.reduceBEq, reduceIte, t0, un, i64, hne, conv_str sb.sl, conv_str hbe, bin_sneq])
                (repeat refine WC.seq ?_)
                by_cases heq : encB (robjR b.length p0).1 = b
                · refine WC.cond (b := false) (by (try simp only [wk, wl, wx, reduceLT, reduceEqDiff, Nat.reduceBEq, reduceIte]); simp [heq]) (WC.skip ?_)
                  (try simp only [wk, wl, wx, reduceLT, reduceEqDiff, Nat.reduceBEq, reduceIte])
                  ((repeat refine WC.seq ?_); refine WC.run ?_)
                  (try simp only [wk, wl, wx, reduceLT, reduceEqDiff, Nat.reduceBEq, reduceIte, t6, t2, le])
                  refine sat_store be ty27 rfl (Nat.le_refl 7) (by simp only [V.cells, Oc.cells, List.all_cons, List.all_nil, (Sl.one obe.code).2, (Sl.one obe.data).2, (Sl.one obe.syms).2, (Sl.one obe.rels).2, (Sl.one obe.needs).2, Bool.and_true]; rfl) ?_
                  intro hf bf nf ff
                  have lf : loadP (E g) hf 27 (.ptr h.next 0) = some (.agg ((⟨cv, dv, sv1, sv2, sv3⟩ : Oc).cells (robjR b.length p0).1)) := bf.agg ty27 rfl (Nat.le_refl 7)
                  (try simp only [wk, wl, wx, reduceLT, reduceEqDiff, Nat.reduceBEq, reduceIte])
                  refine WC.ret ?_
                  (try simp only [wk, wl, wx, reduceLT, reduceEqDiff, Nat.reduceBEq, reduceIte, t2, lf])
                  have hdk : rdecP b = ((robjR b.length p0).1, 0) := by
                    unfold rdecP
                    rw [if_neg (not_not_intro hoe), hp0, if_neg (by rintro (q | q | q); rw [hbd] at q; cases q; exact q hck; exact q heq)]
                  rw [hdk]
                  exact ⟨⟨by omega, fun c hc => by rw [ff.same c (by omega), Fe.same c hc]⟩, _, rfl, (obe.fix (K' := (· ≠ h.next)) ff fun b hb => by omega).up fun b hb => by omega⟩
                · have hbn : (encB (robjR b.length p0).1 == b) = false := by simpa using heq
                  (try simp only [wk, wl, wx, reduceLT, reduceEqDiff, Nat.reduceBEq, reduceIte, hbn, Bool.not_false])
                  refine WC.cond (b := true) (by (try simp only [wk, wl, wx, reduceLT, reduceEqDiff, Nat.reduceBEq, reduceIte]); (try simp); (try omega)) ?_
                  ((repeat refine WC.seq ?_); refine WC.run ?_)
                  (try simp only [wk, wl, wx, reduceLT, reduceEqDiff, Nat.reduceBEq, reduceIte, t2, build27_0])
                  refine sat_store be ty27 rfl (Nat.le_refl 7) rfl ?_
                  intro hf bf nf ff
                  have lf : loadP (E g) hf 27 (.ptr h.next 0) = some (.agg [.str [], .nils, .nils, .nils, .nils, .nils, .str []]) := bf.agg ty27 rfl (Nat.le_refl 7)
                  (try simp only [wk, wl, wx, reduceLT, reduceEqDiff, Nat.reduceBEq, reduceIte])
                  refine WC.ret ?_
                  (try simp only [wk, wl, wx, reduceLT, reduceEqDiff, Nat.reduceBEq, reduceIte, t2, lf])
                  rw [hd (.inr (.inr heq))]
                  exact ⟨⟨by omega, fun c hc => by rw [ff.same c (by omega), Fe.same c hc]⟩, ⟨.nils, .nils, .nils, .nils, .nils⟩, rfl, zeroO_ob⟩
end Go.Proofs.OP
