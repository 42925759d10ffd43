/- Walks: the reference's Read. Printed by genr10.py. -/
import Derived.Test.YtloblhhnlaaajaaGreatDoorW15
import Derived.Test.YtloblhhnlaaajaaGreatDoorW22
import Derived.Test.YtloblhhnlaaajaaGreatDoorW35
import Derived.Test.YtloblhhnlaaajaaGreatDoorW37
set_option linter.unusedVariables false
set_option linter.unusedSimpArgs false
set_option linter.defProp false
set_option linter.unusedSimpArgs false
namespace Go.Proofs.OP
open Go Go.Ev
open Go.Proofs
open Nat (reduceLT reduceEqDiff)
variable {g : T (List V)}

def rexpR (s : RdS) : ExpD × RdS := (⟨(rtxtR s).1, (rnumR (rtxtR s).2).1⟩, (rnumR (rtxtR s).2).2)
def rslotR (s : RdS) : SlotD × RdS := (⟨(rtxtR s).1, (rnumR (rtxtR s).2).1, (rnumR (rnumR (rtxtR s).2).2).1⟩, (rnumR (rnumR (rtxtR s).2).2).2)
def y1R (s : RdS) : RdS := (rnumR s).2
def y2R (s : RdS) : RdS := (rtxtR (y1R s)).2
def y3R (s : RdS) : RdS := (rnumR (y2R s)).2
def y4R (s : RdS) : RdS := (rnumR (y3R s)).2
theorem y1R_le (s : RdS) : (y1R s).xs.length ≤ s.xs.length := rnumR_le s
theorem y2R_le (s : RdS) : (y2R s).xs.length ≤ (y1R s).xs.length := rtxtR_le _
theorem y3R_le (s : RdS) : (y3R s).xs.length ≤ (y2R s).xs.length := rnumR_le _
theorem y4R_le (s : RdS) : (y4R s).xs.length ≤ (y3R s).xs.length := rnumR_le _
def rexpsR (k : Nat) (s : RdS) : RdS × List ExpD := rlistR rexpR k (y4R s)
def rslotsR (k : Nat) (s : RdS) : RdS × List SlotD := rlistR rslotR k (rexpsR k s).1
def rineedsR (k : Nat) (s : RdS) : RdS × List (List UInt8) := rlistR rtxtR k (rslotsR k s).1
def rimgR (k : Nat) (s : RdS) : ImgD × Bool := (⟨(rnumR s).1, (rtxtR (y1R s)).1, (rnumR (y2R s)).1, (rnumR (y3R s)).1, (rexpsR k s).2, (rslotsR k s).2, (rineedsR k s).2⟩, (rineedsR k s).1.bad)
def rreadP (b : List UInt8) : ImgD × Int :=
  if openE 1 b ≠ 0 then (zeroI, openE 1 b)
  else if (rimgR b.length ⟨inner b, false⟩).2 = true ∨ rightB (rimgR b.length ⟨inner b, false⟩).1 = false ∨ imgB (rimgR b.length ⟨inner b, false⟩).1 ≠ b then (zeroI, 12)
  else ((rimgR b.length ⟨inner b, false⟩).1, 0)
theorem rexpR_bad {s : RdS} (h : (rexpR s).2.bad = false) : s.bad = false ∧ (rexpR s).2.xs.length < s.xs.length := by
  obtain ⟨a1, a2⟩ := rnumR_bad h
  obtain ⟨b1, b2⟩ := rtxtR_bad a1
  exact ⟨b1, by simp only [rexpR]; omega⟩
theorem rslotR_bad {s : RdS} (h : (rslotR s).2.bad = false) : s.bad = false ∧ (rslotR s).2.xs.length < s.xs.length := by
  obtain ⟨a1, a2⟩ := rnumR_bad h
  obtain ⟨b1, b2⟩ := rnumR_bad a1
  obtain ⟨c1, c2⟩ := rtxtR_bad b1
  exact ⟨c1, by simp only [rslotR]; omega⟩
theorem rexpR_le (s : RdS) : (rexpR s).2.xs.length ≤ s.xs.length := Nat.le_trans (rnumR_le _) (rtxtR_le _)
theorem rslotR_le (s : RdS) : (rslotR s).2.xs.length ≤ s.xs.length := Nat.le_trans (rnumR_le _) (Nat.le_trans (rnumR_le _) (rtxtR_le _))
theorem build50_0 : buildV (E g) 50 [] = some (.agg [i64 0, .nils, i64 0, i64 0, .nils, .nils, .nils]) := by
  simp only [buildV, ty50, fillAll, List.all_cons, List.all_nil, ty2, ty22, ty47, ty48, ty25, Option.isSome_some, Bool.and_true, Bool.not_true, cond_false]
  rfl
theorem build50_4 {a b c : Int} {x : V} (hx : x.cells = [x]) : buildV (E g) 50 [(0, i64 a), (1, x), (2, i64 b), (3, i64 c)] = some (.agg [i64 a, x, i64 b, i64 c, .nils, .nils, .nils]) := by
  simp only [buildV, ty50, fillAll, nth, sizeOf_of ty2, sizeOf_of ty22, hx, List.all_cons, List.all_nil, ty2, ty22, ty47, ty48, ty25, Option.isSome_some, Bool.and_true, Bool.not_true, cond_false]
  rfl
theorem build134 {n : List UInt8} {a : Int} : buildV (E g) 134 [(0, .str n), (1, i64 a)] = some (.agg [.str n, i64 a]) := by
  simp only [buildV, ty134, fillAll, nth, sizeOf_of ty9, sizeOf_of ty2, List.all_cons, List.all_nil, ty9, ty2, Option.isSome_some, Bool.and_true, Bool.not_true, cond_false]
  rfl
theorem build136 {n : List UInt8} {a b : Int} : buildV (E g) 136 [(0, .str n), (1, i64 a), (2, i64 b)] = some (.agg [.str n, i64 a, i64 b]) := by
  simp only [buildV, ty136, fillAll, nth, sizeOf_of ty9, sizeOf_of ty2, List.all_cons, List.all_nil, ty9, ty2, Option.isSome_some, Bool.and_true, Bool.not_true, cond_false]
  rfl

set_option maxRecDepth 100000 in
set_option maxHeartbeats 8000000 in
theorem rread_ok {h : H} {s : V} {b : List UInt8} (hb : Bs g h s b) (hs : In (· < h.next) s) (hlen : b.length < 2 ^ 33) :
    WF (E g) 21 [s] h fun v h' => Kept h h' ∧ ∃ c, v = .tuple [.agg (c.cells (rreadP b).1), i64 (rreadP b).2] ∧ Im g h' (fun b => h.next ≤ b ∧ b < h'.next) c (rreadP b).1 := by
  refine WF.enter fn21 rfl ?_
  ((repeat refine WC.seq ?_); refine WC.run ?_)
  (try simp only [wk, wl, wx, reduceLT, reduceEqDiff, Nat.reduceBEq, reduceIte])
  refine wop_alloc ty50 ?_
  intro h1 b1 n1 f1
  have b1 : Has h1 h.next [i64 0, .nils, i64 0, i64 0, .nils, .nils, .nils] := b1
  (try simp only [wk, wl, wx, reduceLT, reduceEqDiff, Nat.reduceBEq, reduceIte])
  have hb1 := Sl.fix hb hs f1
  have hs1 : In (· < h1.next) s := hs.sub fun x hx => by omega
  ((repeat refine WC.seq ?_); refine WC.run ?_)
  (try simp only [wk, wl, wx, reduceLT, reduceEqDiff, Nat.reduceBEq, reduceIte])
  refine (begun_ok (k := 1) (by decide) hb1 hs1 (by omega)).mono fun v h2 ⟨F2, c1, c2⟩ => ?_
  have x2 := F2.next
  have b2 := b1.fix F2 (by omega)
  rcases (Decidable.em (openE 1 b = 0)).symm with hoe | hoe
  · have hv := c1 hoe
    subst hv
    (try simp only [wk, wl, wx, reduceLT, reduceEqDiff, Nat.reduceBEq, reduceIte, i64])
    ((repeat refine WC.seq ?_); refine WC.run ?_)
    (try simp only [wk, wl, wx, reduceLT, reduceEqDiff, Nat.reduceBEq, reduceIte, i64])
    (repeat refine WC.seq ?_)
    refine WC.cond (b := true) (by (try simp only [wk, wl, wx, reduceLT, reduceEqDiff, Nat.reduceBEq, reduceIte, hoe]); (try simp); (try omega)) ?_
    ((repeat refine WC.seq ?_); refine WC.run ?_)
    (try simp only [wk, wl, wx, reduceLT, reduceEqDiff, Nat.reduceBEq, reduceIte, build50_0])
    refine sat_store b2 ty50 rfl (Nat.le_refl 7) rfl ?_
    intro h5 b5 n5 f5
    have l5 : loadP (E g) h5 50 (.ptr h.next 0) = some (.agg [i64 0, .nils, i64 0, i64 0, .nils, .nils, .nils]) := b5.agg ty50 rfl (Nat.le_refl 7)
    (try simp only [wk, wl, wx, reduceLT, reduceEqDiff, Nat.reduceBEq, reduceIte])
    refine WC.ret ?_
    (try simp only [wk, wl, wx, reduceLT, reduceEqDiff, Nat.reduceBEq, reduceIte, l5])
    have hd : rreadP b = (zeroI, openE 1 b) := by unfold rreadP; rw [if_pos hoe]
    rw [hd]
    exact ⟨⟨by omega, fun c hc => by rw [f5.same c (by omega), F2.same c (by omega), f1.same c hc]⟩, ⟨.nils, .nils, .nils, .nils⟩, rfl, zeroI_im⟩
  · obtain ⟨rb, e, w1, w2, r2⟩ := c2 hoe
    subst e
    have hb2 := Sl.fix hb1 hs1 F2
    (try simp only [wk, wl, wx, reduceLT, reduceEqDiff, Nat.reduceBEq, reduceIte, i64])
    ((repeat refine WC.seq ?_); refine WC.run ?_)
    (try simp only [wk, wl, wx, reduceLT, reduceEqDiff, Nat.reduceBEq, reduceIte, i64])
    (repeat refine WC.seq ?_)
    refine WC.cond (b := false) (by (try simp only [wk, wl, wx, reduceLT, reduceEqDiff, Nat.reduceBEq, reduceIte]); (try simp); (try omega)) (WC.skip ?_)
    (try simp only [wk, wl, wx, reduceLT, reduceEqDiff, Nat.reduceBEq, reduceIte])
    have hil8 := inner_lenk hoe
    generalize hp0 : (⟨inner b, false⟩ : RdS) = p0 at r2
    have lp0 : p0.xs.length + 8 ≤ b.length := by rw [← hp0]; exact hil8.2
    have z1 := y1R_le p0
    have z2 := y2R_le p0
    have z3 := y3R_le p0
    have z4 := y4R_le p0
    ((repeat refine WC.seq ?_); refine WC.run ?_)
    (try simp only [wk, wl, wx, reduceLT, reduceEqDiff, Nat.reduceBEq, reduceIte])
    refine (rnum_ok r2 (by omega) (by omega)).mono fun v j1 ⟨e1, r1', m1, g1⟩ => ?_
    subst e1
    have r1' : Rd g j1 (· < h1.next) rb (y1R p0) := r1'
    (try simp only [wk, wl, wx, reduceLT, reduceEqDiff, Nat.reduceBEq, reduceIte])
    refine (rtxt_ok r1' (by omega) (by omega)).mono fun v j2 ⟨e2, r2', m2, g2⟩ => ?_
    subst e2
    have r2' : Rd g j2 (· < h1.next) rb (y2R p0) := r2'
    (try simp only [wk, wl, wx, reduceLT, reduceEqDiff, Nat.reduceBEq, reduceIte])
    refine sat_ofStr ?_
    intro j3 d3 m3 g3
    have r3' := r2'.fix g3 (by omega) (fun b hb => by omega)
    (try simp only [wk, wl, wx, reduceLT, reduceEqDiff, Nat.reduceBEq, reduceIte])
    refine (rnum_ok r3' (by omega) (by omega)).mono fun v j4 ⟨e4, r4', m4, g4⟩ => ?_
    subst e4
    have r4' : Rd g j4 (· < h1.next) rb (y3R p0) := r4'
    have d4 : Bs g j4 (.slice j2.next 0 (rtxtR (y1R p0)).1.length (.opn 0 0)) (rtxtR (y1R p0)).1 := Sl.fix d3 (K := (· ≠ rb)) (fun b o n c e => by injection e with e; omega) g4
    (try simp only [wk, wl, wx, reduceLT, reduceEqDiff, Nat.reduceBEq, reduceIte])
    refine (rnum_ok r4' (by omega) (by omega)).mono fun v j5 ⟨e5, r5', m5, g5⟩ => ?_
    subst e5
    have r5' : Rd g j5 (· < h1.next) rb (y4R p0) := r5'
    have d5 : Bs g j5 (.slice j2.next 0 (rtxtR (y1R p0)).1.length (.opn 0 0)) (rtxtR (y1R p0)).1 := Sl.fix d4 (K := (· ≠ rb)) (fun b o n c e => by injection e with e; omega) g5
    (try simp only [wk, wl, wx, reduceLT, reduceEqDiff, Nat.reduceBEq, reduceIte, build50_4 (Sl.one d5).1])
    refine wop_alloc ty50 ?_
    intro j6 d6 m6 g6
    (try simp only [wk, wl, wx, reduceLT, reduceEqDiff, Nat.reduceBEq, reduceIte])
    refine sat_store d6 ty50 rfl (Nat.le_refl 7) rfl ?_
    intro h5 q5 n5 f5
    (try simp only [wk, wl, wx, reduceLT, reduceEqDiff, Nat.reduceBEq, reduceIte])
    obtain ⟨q, hq⟩ : ∃ q, q = j5.next := ⟨_, rfl⟩
    obtain ⟨bv, hbv⟩ : ∃ bv, bv = V.slice j2.next 0 (rtxtR (y1R p0)).1.length (.opn 0 0) := ⟨_, rfl⟩
    rw [← hbv] at d5 q5
    rw [← hq] at q5 f5
    rw [← hq]
    have bw : In (fun b => h2.next ≤ b ∧ b < h5.next ∧ b ≠ q) bv := fun b o n c e => by rw [hbv] at e; injection e with e; omega
    have bv5 : Bs g h5 bv (rtxtR (y1R p0)).1 := Sl.fix (Sl.fix d5 (K := (· < j5.next)) (fun b o n c e => by rw [hbv] at e; injection e with e; omega) g6) (K := (· ≠ q)) (fun b o n c e => by rw [hbv] at e; injection e with e; omega) f5
    have q5 : Has h5 q [i64 (rnumR p0).1, bv, i64 (rnumR (y2R p0)).1, i64 (rnumR (y3R p0)).1, .nils, .nils, .nils] := q5
    have r5 : Rd g h5 (· < h1.next) rb (y4R p0) := (r5'.fix g6 (by omega) (fun b hb => by omega)).fix f5 (by omega) (fun b hb => by omega)
    have q1 : h2.next ≤ q := by omega
    have q2 : q < h5.next := by omega
    have F5 : Fix (fun b => b < h2.next ∧ b ≠ rb) h2 h5 := ⟨by omega, fun b hb => by rw [f5.same b (by omega), g6.same b (by omega), g5.same b hb.2, g4.same b hb.2, g3.same b (by omega), g2.same b hb.2, g1.same b hb.2]⟩
    have x5 := F5.next
    have b5 := b2.fix F5 ⟨by omega, by omega⟩
    have hb5 := Sl.fix hb2 (hs1.sub fun b hb => (⟨by omega, by omega⟩ : b < h2.next ∧ b ≠ rb)) F5
    clear hbv hq
    ((repeat refine WC.seq ?_); refine WC.run ?_)
    (try simp only [wk, wl, wx, reduceLT, reduceEqDiff, Nat.reduceBEq, reduceIte])
    refine (cnt_ok r5 (by omega) (by omega)).mono fun v hc ⟨ec, rc, nc, fc⟩ => ?_
    subst ec
    have qc := q5.fix fc (by omega)
    have lc := cntR_le (y4R p0)
    (try simp only [wk, wl, wx, reduceLT, reduceEqDiff, Nat.reduceBEq, reduceIte])
    (repeat refine WC.seq ?_)
    refine WC.mono (Q := fun e fr hh => e = .normal ∧ ∃ ts sv, fr = ⟨ts, 119, [], 21, none⟩ ∧ DI g h5 h1.next p0.xs.length rb q (fun zz => [i64 (rnumR p0).1, bv, i64 (rnumR (y2R p0)).1, i64 (rnumR (y3R p0)).1, zz, .nils, .nils]) 134 2 (fun L => L.flatMap expV) (eachR (fun x => x.1) (adv rexpR) b.length (cntR (y4R p0)).1 ((cntR (y4R p0)).2, [])) hh sv ∧ ts.get 0 = some s ∧ ts.get 2 = some (.ptr h.next 0) ∧ ts.get 4 = some (.ptr rb 0) ∧ ts.get 6 = some (.ptr q 0)) (WC.block ?_) ?_
    · refine WC.while (fun m fr hh => ∃ ts n' s' sv, fr = ⟨ts, 119, [], 21, none⟩ ∧ DI g h5 h1.next p0.xs.length rb q (fun zz => [i64 (rnumR p0).1, bv, i64 (rnumR (y2R p0)).1, i64 (rnumR (y3R p0)).1, zz, .nils, .nils]) 134 2 (fun L => L.flatMap expV) s' hh sv ∧ n' < 2 ^ 63 ∧ (s'.1.bad = false → s'.1.xs.length < m) ∧ eachR (fun x => x.1) (adv rexpR) b.length (cntR (y4R p0)).1 ((cntR (y4R p0)).2, []) = eachR (fun x => x.1) (adv rexpR) m n' s' ∧ ts.get 0 = some s ∧ ts.get 2 = some (.ptr h.next 0) ∧ ts.get 4 = some (.ptr rb 0) ∧ ts.get 6 = some (.ptr q 0) ∧ ts.get 7 = some (i64 n')) ?_ ⟨_, (cntR (y4R p0)).1, ((cntR (y4R p0)).2, []), .nils, rfl, ⟨rc, qc, .nil, In.nils, ⟨by omega, fun b hb => fc.same b hb.2.1⟩, by show (cntR (y4R p0)).2.xs.length ≤ _; omega, Nat.zero_le _, fun _ => by show 0 + (cntR (y4R p0)).2.xs.length ≤ _; omega⟩, cntR_lt _, fun _ => by show (cntR (y4R p0)).2.xs.length < _; omega, rfl, ?_, ?_, ?_, ?_, ?_⟩
      · rintro m fr hh ⟨ts, n', s', sv, rfl, ii, hn', hm, he, t0, t2, t4, t6, tn⟩
        obtain ⟨bsl, bb, _, _⟩ := ii.rd
        have stop (hs : ¬ (0 < n' ∧ s'.1.bad = false)) : DI g h5 h1.next p0.xs.length rb q (fun zz => [i64 (rnumR p0).1, bv, i64 (rnumR (y2R p0)).1, i64 (rnumR (y3R p0)).1, zz, .nils, .nils]) 134 2 (fun L => L.flatMap expV) (eachR (fun x => x.1) (adv rexpR) b.length (cntR (y4R p0)).1 ((cntR (y4R p0)).2, [])) hh sv := by
          rw [he]
          cases m with
          | zero => exact ii
          | succ m => rw [eachR, if_neg hs]; exact ii
        ((repeat refine WC.seq ?_); refine WC.run ?_)
        rcases Decidable.em (0 < n') with hp | hp
        · cases hbd : s'.1.bad with
          | true =>
            rw [hbd] at bb
            (try simp only [wk, wl, wx, reduceLT, reduceEqDiff, Nat.reduceBEq, reduceIte, tn, t4, i64, decide_eq_true hp, un, fa131_1, Nat.zero_add, bb.at ty4 rfl, Bool.not_true])
            (repeat refine WC.seq ?_)
            refine WC.cond (b := false) (by (try simp only [wk, wl, wx, reduceLT, reduceEqDiff, Nat.reduceBEq, reduceIte]); (try simp); (try omega)) (WC.exit ?_)
            (try simp only [wk, wl, wx, reduceLT, reduceEqDiff, Nat.reduceBEq, reduceIte])
            exact ⟨by trivial, _, sv, rfl, stop (by rw [hbd]; simp), by (try simp only [wk, wl, wx, reduceLT, reduceEqDiff, Nat.reduceBEq, reduceIte, t0]), by (try simp only [wk, wl, wx, reduceLT, reduceEqDiff, Nat.reduceBEq, reduceIte, t2]), by (try simp only [wk, wl, wx, reduceLT, reduceEqDiff, Nat.reduceBEq, reduceIte, t4]), by (try simp only [wk, wl, wx, reduceLT, reduceEqDiff, Nat.reduceBEq, reduceIte, t6])⟩
          | false =>
            rw [hbd] at bb
            (try simp only [wk, wl, wx, reduceLT, reduceEqDiff, Nat.reduceBEq, reduceIte, tn, t4, i64, decide_eq_true hp, un, fa131_1, Nat.zero_add, bb.at ty4 rfl, Bool.not_false])
            (repeat refine WC.seq ?_)
            refine WC.cond (b := true) (by (try simp only [wk, wl, wx, reduceLT, reduceEqDiff, Nat.reduceBEq, reduceIte]); (try simp); (try omega)) (WC.skip ?_)
            (try simp only [wk, wl, wx, reduceLT, reduceEqDiff, Nat.reduceBEq, reduceIte])
            have hmb := hm hbd
            obtain ⟨m, rfl⟩ : ∃ m', m = m' + 1 := ⟨m - 1, by omega⟩
            have hE : eachR (fun x => x.1) (adv rexpR) (m + 1) n' s' = eachR (fun x => x.1) (adv rexpR) m (n' - 1) (adv rexpR s') := by rw [eachR, if_pos ⟨hp, hbd⟩]
            obtain ⟨r0, o0, bu0, nw, fA, lA, lnA, smA⟩ := ii
            have sm0 := smA hbd
            have xA := fA.next
            obtain ⟨k0, hk0⟩ : ∃ k0, k0 = hh := ⟨hh, rfl⟩
            subst hk0
            have F0 := Fix.refl (· ≠ rb) k0
            (repeat refine WC.seq ?_)
            refine WC.block ?_
            ((repeat refine WC.seq ?_); refine WC.draw (plans := pl21_8) (by kernel_rfl) ?_; simp only [pl21_8, List.mem_cons, List.not_mem_nil, or_false, forall_eq_or_imp, forall_eq])
            (try simp (maxSteps := 2000000) only [wk, wl, wx, reduceLT, reduceEqDiff, Nat.reduceBEq, reduceIte, wd, Chk, and_true, true_and, t4, t6, fa50_4, Nat.zero_add, o0.at ty47 rfl, build134])
            refine (rtxt_ok r0 (by omega) (by omega)).mono fun v k1 ⟨e1, r1, n1, g1⟩ => ?_
            subst e1
            have l1 := rtxtR_le s'.1
            have F1 : Fix (· ≠ rb) k0 k1 := F0.trans g1
            have o1 := o0.fix F1 (by omega)
            (try simp (maxSteps := 2000000) only [wk, wl, wx, reduceLT, reduceEqDiff, Nat.reduceBEq, reduceIte, wd, Chk, and_true, true_and, t4, t6, fa50_4, Nat.zero_add, o1.at ty47 rfl, build134])
            refine (rnum_ok r1 (by omega) (by omega)).mono fun v k2 ⟨e2, r2, n2, g2⟩ => ?_
            subst e2
            have l2 := rnumR_le (rtxtR s'.1).2
            have F2 : Fix (· ≠ rb) k0 k2 := F1.trans g2
            have o2 := o0.fix F2 (by omega)
            (try simp (maxSteps := 2000000) only [wk, wl, wx, reduceLT, reduceEqDiff, Nat.reduceBEq, reduceIte, wd, Chk, and_true, true_and, t4, t6, fa50_4, Nat.zero_add, o2.at ty47 rfl, build134])
            have rA : Rd g k2 (· < h1.next) rb (rexpR s'.1).2 := r2
            have FA : Fix (fun b => b < k0.next ∧ b ≠ rb) k0 k2 := F2.sub fun b hb => hb.2
            have bu1 := bu0.fix (nw.sub fun b hb => (⟨by omega, by omega⟩ : b < k0.next ∧ b ≠ rb)) FA
            refine sat_buildSlice (cs := expV (rexpR s'.1).1) ty47 rfl ty134 rfl (by decide) (by decide) (fill2 (expV_length (rexpR s'.1).1)) rfl ?_
            intro ka la na fa
            have oa := o2.fix fa (by omega)
            have bua := bu1.fix (nw.sub fun b hb => by omega) fa
            (try simp (maxSteps := 2000000) only [wk, wl, wx, reduceLT, reduceEqDiff, Nat.reduceBEq, reduceIte, wd, Chk, and_true, true_and, t4, t6, fa50_4, Nat.zero_add, oa.at ty47 rfl, build134])
            refine sat_grow bua (nw.sub fun b hb => by omega) ty47 rfl ty47 (.inl ⟨_, rfl⟩) ty134 rfl (by decide) (by decide) la.sl.len la.sl.cells (by rfl) (expV_one _) (by simp; omega) ?_
            intro sw kb gb
            have xb := gb.fix.next
            have ob := oa.fix gb.fix ⟨by omega, fun o m cc e => by have := nw _ _ _ _ e; omega⟩
            have wb : In (fun b => h5.next ≤ b ∧ b < kb.next) sw := fun b o n c e => ⟨by
              rcases gb.own _ _ _ _ e with q | ⟨o, k, c, q⟩
              · omega
              · exact (nw _ _ _ _ q).1, gb.low _ _ _ _ e⟩
            (try simp (maxSteps := 2000000) only [wk, wl, wx, reduceLT, reduceEqDiff, Nat.reduceBEq, reduceIte, wd, Chk, and_true, true_and, t6, fa50_4, Nat.zero_add])
            refine sat_store ob ty47 (by rw [gb.buf.sl.one.1]; rfl) (by simp) (by rw [gb.buf.sl.one.1]; simp [gb.buf.sl.one.2]) ?_
            intro kz oz nz fz
            rw [gb.buf.sl.one.1] at oz
            (try simp (maxSteps := 2000000) only [wk, wl, wx, reduceLT, reduceEqDiff, Nat.reduceBEq, reduceIte, wd, Chk, and_true, true_and])
            ((repeat refine WC.seq ?_); refine WC.run ?_)
            (try simp only [wk, wl, wx, reduceLT, reduceEqDiff, Nat.reduceBEq, reduceIte, tn, bin_sub, i64])
            have hle := rexpR_le s'.1
            refine ⟨m, by omega, _, n' - 1, adv rexpR s', sw, rfl, ⟨?_, oz, ?_, wb.sub fun b hb => by omega, ⟨by omega, fun b hb => ?_⟩, by show (rexpR s'.1).2.xs.length ≤ _; omega, by simp [adv]; omega, fun hb => ?_⟩, by omega, fun hb => ?_, he.trans hE, ?_⟩
            · exact ((rA.fix fa (by omega) (fun b hb => by omega)).fix gb.fix ⟨by omega, fun o m cc e => by have := nw _ _ _ _ e; omega⟩ (fun b hb => ⟨by omega, fun o m cc e => by have := nw _ _ _ _ e; omega⟩)).fix fz (by omega) (fun b hb => by omega)
            · have := gb.buf.fix (K := (· ≠ q)) (wb.sub fun b hb => by omega) fz
              simpa [adv, List.flatMap_append] using this
            · rw [fz.same b (by omega), gb.fix.same b ⟨by omega, fun o m cc e => by have := nw _ _ _ _ e; omega⟩, fa.same b (by omega), FA.same b ⟨by omega, by omega⟩, fA.same b hb]
            · have h1 := (rexpR_bad (s := s'.1) hb).2
              simp only [adv, List.length_append, List.length_cons, List.length_nil]; omega
            · have h1 := (rexpR_bad (s := s'.1) hb).2
              show (rexpR s'.1).2.xs.length < m
              omega
            (try simp only [wk, wl, wx, reduceLT, reduceEqDiff, Nat.reduceBEq, reduceIte, t0, t2, t4, t6])
            refine ⟨trivial, trivial, trivial, trivial, ?_⟩
            rw [wrap64 (by omega) (by omega)]
        · (try simp only [wk, wl, wx, reduceLT, reduceEqDiff, Nat.reduceBEq, reduceIte, tn, i64, decide_eq_false hp, un])
          (repeat refine WC.seq ?_)
          refine WC.cond (b := false) (by (try simp only [wk, wl, wx, reduceLT, reduceEqDiff, Nat.reduceBEq, reduceIte]); (try simp); (try omega)) (WC.exit ?_)
          (try simp only [wk, wl, wx, reduceLT, reduceEqDiff, Nat.reduceBEq, reduceIte])
          exact ⟨by trivial, _, sv, rfl, stop (by simp; omega), by (try simp only [wk, wl, wx, reduceLT, reduceEqDiff, Nat.reduceBEq, reduceIte, t0]), by (try simp only [wk, wl, wx, reduceLT, reduceEqDiff, Nat.reduceBEq, reduceIte, t2]), by (try simp only [wk, wl, wx, reduceLT, reduceEqDiff, Nat.reduceBEq, reduceIte, t4]), by (try simp only [wk, wl, wx, reduceLT, reduceEqDiff, Nat.reduceBEq, reduceIte, t6])⟩
      all_goals (try simp only [wk, wl, wx, reduceLT, reduceEqDiff, Nat.reduceBEq, reduceIte, t0, t2, t4, t6])
      all_goals (first | trivial | rfl | simp)
    · rintro e fr h6 ⟨rfl, ts, sv1, rfl, i6, t0, t2, t4, t6⟩
      have i6 : DI g h5 h1.next p0.xs.length rb q (fun zz => [i64 (rnumR p0).1, bv, i64 (rnumR (y2R p0)).1, i64 (rnumR (y3R p0)).1, zz, .nils, .nils]) 134 2 (fun L => L.flatMap expV) (rexpsR b.length p0) h6 sv1 := i6
      have r6 := i6.rd
      have q6 : Has h6 q [i64 (rnumR p0).1, bv, i64 (rnumR (y2R p0)).1, i64 (rnumR (y3R p0)).1, sv1, .nils, .nils] := i6.co
      have x6 := i6.fx.next
      have l6 : (rexpsR b.length p0).1.xs.length ≤ p0.xs.length := i6.xs
      (try simp only [wk, wl, wx, reduceLT, reduceEqDiff, Nat.reduceBEq, reduceIte])
      ((repeat refine WC.seq ?_); refine WC.run ?_)
      (try simp only [wk, wl, wx, reduceLT, reduceEqDiff, Nat.reduceBEq, reduceIte, t4])
      refine (cnt_ok r6 (by omega) (by omega)).mono fun v hc ⟨ec, rc, nc, fc⟩ => ?_
      subst ec
      have qc := q6.fix fc (by omega)
      have lc := cntR_le (rexpsR b.length p0).1
      (try simp only [wk, wl, wx, reduceLT, reduceEqDiff, Nat.reduceBEq, reduceIte])
      (repeat refine WC.seq ?_)
      refine WC.mono (Q := fun e fr hh => e = .normal ∧ ∃ ts sv, fr = ⟨ts, 119, [], 21, none⟩ ∧ DI g h6 h1.next p0.xs.length rb q (fun zz => [i64 (rnumR p0).1, bv, i64 (rnumR (y2R p0)).1, i64 (rnumR (y3R p0)).1, sv1, zz, .nils]) 136 3 (fun L => L.flatMap slotV) (eachR (fun x => x.1) (adv rslotR) b.length (cntR (rexpsR b.length p0).1).1 ((cntR (rexpsR b.length p0).1).2, [])) hh sv ∧ ts.get 0 = some s ∧ ts.get 2 = some (.ptr h.next 0) ∧ ts.get 4 = some (.ptr rb 0) ∧ ts.get 6 = some (.ptr q 0)) (WC.block ?_) ?_
      · refine WC.while (fun m fr hh => ∃ ts n' s' sv, fr = ⟨ts, 119, [], 21, none⟩ ∧ DI g h6 h1.next p0.xs.length rb q (fun zz => [i64 (rnumR p0).1, bv, i64 (rnumR (y2R p0)).1, i64 (rnumR (y3R p0)).1, sv1, zz, .nils]) 136 3 (fun L => L.flatMap slotV) s' hh sv ∧ n' < 2 ^ 63 ∧ (s'.1.bad = false → s'.1.xs.length < m) ∧ eachR (fun x => x.1) (adv rslotR) b.length (cntR (rexpsR b.length p0).1).1 ((cntR (rexpsR b.length p0).1).2, []) = eachR (fun x => x.1) (adv rslotR) m n' s' ∧ ts.get 0 = some s ∧ ts.get 2 = some (.ptr h.next 0) ∧ ts.get 4 = some (.ptr rb 0) ∧ ts.get 6 = some (.ptr q 0) ∧ ts.get 8 = some (i64 n')) ?_ ⟨_, (cntR (rexpsR b.length p0).1).1, ((cntR (rexpsR b.length p0).1).2, []), .nils, rfl, ⟨rc, qc, .nil, In.nils, ⟨by omega, fun b hb => fc.same b hb.2.1⟩, by show (cntR (rexpsR b.length p0).1).2.xs.length ≤ _; omega, Nat.zero_le _, fun _ => by show 0 + (cntR (rexpsR b.length p0).1).2.xs.length ≤ _; omega⟩, cntR_lt _, fun _ => by show (cntR (rexpsR b.length p0).1).2.xs.length < _; omega, rfl, ?_, ?_, ?_, ?_, ?_⟩
        · rintro m fr hh ⟨ts, n', s', sv, rfl, ii, hn', hm, he, t0, t2, t4, t6, tn⟩
          obtain ⟨bsl, bb, _, _⟩ := ii.rd
          have stop (hs : ¬ (0 < n' ∧ s'.1.bad = false)) : DI g h6 h1.next p0.xs.length rb q (fun zz => [i64 (rnumR p0).1, bv, i64 (rnumR (y2R p0)).1, i64 (rnumR (y3R p0)).1, sv1, zz, .nils]) 136 3 (fun L => L.flatMap slotV) (eachR (fun x => x.1) (adv rslotR) b.length (cntR (rexpsR b.length p0).1).1 ((cntR (rexpsR b.length p0).1).2, [])) hh sv := by
            rw [he]
            cases m with
            | zero => exact ii
            | succ m => rw [eachR, if_neg hs]; exact ii
          ((repeat refine WC.seq ?_); refine WC.run ?_)
          rcases Decidable.em (0 < n') with hp | hp
          · cases hbd : s'.1.bad with
            | true =>
              rw [hbd] at bb
              (try simp only [wk, wl, wx, reduceLT, reduceEqDiff, Nat.reduceBEq, reduceIte, tn, t4, i64, decide_eq_true hp, un, fa131_1, Nat.zero_add, bb.at ty4 rfl, Bool.not_true])
              (repeat refine WC.seq ?_)
              refine WC.cond (b := false) (by (try simp only [wk, wl, wx, reduceLT, reduceEqDiff, Nat.reduceBEq, reduceIte]); (try simp); (try omega)) (WC.exit ?_)
              (try simp only [wk, wl, wx, reduceLT, reduceEqDiff, Nat.reduceBEq, reduceIte])
              exact ⟨by trivial, _, sv, rfl, stop (by rw [hbd]; simp), by (try simp only [wk, wl, wx, reduceLT, reduceEqDiff, Nat.reduceBEq, reduceIte, t0]), by (try simp only [wk, wl, wx, reduceLT, reduceEqDiff, Nat.reduceBEq, reduceIte, t2]), by (try simp only [wk, wl, wx, reduceLT, reduceEqDiff, Nat.reduceBEq, reduceIte, t4]), by (try simp only [wk, wl, wx, reduceLT, reduceEqDiff, Nat.reduceBEq, reduceIte, t6])⟩
            | false =>
              rw [hbd] at bb
              (try simp only [wk, wl, wx, reduceLT, reduceEqDiff, Nat.reduceBEq, reduceIte, tn, t4, i64, decide_eq_true hp, un, fa131_1, Nat.zero_add, bb.at ty4 rfl, Bool.not_false])
              (repeat refine WC.seq ?_)
              refine WC.cond (b := true) (by (try simp only [wk, wl, wx, reduceLT, reduceEqDiff, Nat.reduceBEq, reduceIte]); (try simp); (try omega)) (WC.skip ?_)
              (try simp only [wk, wl, wx, reduceLT, reduceEqDiff, Nat.reduceBEq, reduceIte])
              have hmb := hm hbd
              obtain ⟨m, rfl⟩ : ∃ m', m = m' + 1 := ⟨m - 1, by omega⟩
              have hE : eachR (fun x => x.1) (adv rslotR) (m + 1) n' s' = eachR (fun x => x.1) (adv rslotR) m (n' - 1) (adv rslotR s') := by rw [eachR, if_pos ⟨hp, hbd⟩]
              obtain ⟨r0, o0, bu0, nw, fA, lA, lnA, smA⟩ := ii
              have sm0 := smA hbd
              have xA := fA.next
              obtain ⟨k0, hk0⟩ : ∃ k0, k0 = hh := ⟨hh, rfl⟩
              subst hk0
              have F0 := Fix.refl (· ≠ rb) k0
              (repeat refine WC.seq ?_)
              refine WC.block ?_
              ((repeat refine WC.seq ?_); refine WC.draw (plans := pl21_12) (by kernel_rfl) ?_; simp only [pl21_12, List.mem_cons, List.not_mem_nil, or_false, forall_eq_or_imp, forall_eq])
              (try simp (maxSteps := 2000000) only [wk, wl, wx, reduceLT, reduceEqDiff, Nat.reduceBEq, reduceIte, wd, Chk, and_true, true_and, t4, t6, fa50_5, Nat.zero_add, o0.at ty48 rfl, build136])
              refine (rtxt_ok r0 (by omega) (by omega)).mono fun v k1 ⟨e1, r1, n1, g1⟩ => ?_
              subst e1
              have l1 := rtxtR_le s'.1
              have F1 : Fix (· ≠ rb) k0 k1 := F0.trans g1
              have o1 := o0.fix F1 (by omega)
              (try simp (maxSteps := 2000000) only [wk, wl, wx, reduceLT, reduceEqDiff, Nat.reduceBEq, reduceIte, wd, Chk, and_true, true_and, t4, t6, fa50_5, Nat.zero_add, o1.at ty48 rfl, build136])
              refine (rnum_ok r1 (by omega) (by omega)).mono fun v k2 ⟨e2, r2, n2, g2⟩ => ?_
              subst e2
              have l2 := rnumR_le (rtxtR s'.1).2
              have F2 : Fix (· ≠ rb) k0 k2 := F1.trans g2
              have o2 := o0.fix F2 (by omega)
              (try simp (maxSteps := 2000000) only [wk, wl, wx, reduceLT, reduceEqDiff, Nat.reduceBEq, reduceIte, wd, Chk, and_true, true_and, t4, t6, fa50_5, Nat.zero_add, o2.at ty48 rfl, build136])
              refine (rnum_ok r2 (by omega) (by omega)).mono fun v k3 ⟨e3, r3, n3, g3⟩ => ?_
              subst e3
              have l3 := rnumR_le (rnumR (rtxtR s'.1).2).2
              have F3 : Fix (· ≠ rb) k0 k3 := F2.trans g3
              have o3 := o0.fix F3 (by omega)
              (try simp (maxSteps := 2000000) only [wk, wl, wx, reduceLT, reduceEqDiff, Nat.reduceBEq, reduceIte, wd, Chk, and_true, true_and, t4, t6, fa50_5, Nat.zero_add, o3.at ty48 rfl, build136])
              have rA : Rd g k3 (· < h1.next) rb (rslotR s'.1).2 := r3
              have FA : Fix (fun b => b < k0.next ∧ b ≠ rb) k0 k3 := F3.sub fun b hb => hb.2
              have bu1 := bu0.fix (nw.sub fun b hb => (⟨by omega, by omega⟩ : b < k0.next ∧ b ≠ rb)) FA
              refine sat_buildSlice (cs := slotV (rslotR s'.1).1) ty48 rfl ty136 rfl (by decide) (by decide) (fill3 (slotV_length (rslotR s'.1).1)) rfl ?_
              intro ka la na fa
              have oa := o3.fix fa (by omega)
              have bua := bu1.fix (nw.sub fun b hb => by omega) fa
              (try simp (maxSteps := 2000000) only [wk, wl, wx, reduceLT, reduceEqDiff, Nat.reduceBEq, reduceIte, wd, Chk, and_true, true_and, t4, t6, fa50_5, Nat.zero_add, oa.at ty48 rfl, build136])
              refine sat_grow bua (nw.sub fun b hb => by omega) ty48 rfl ty48 (.inl ⟨_, rfl⟩) ty136 rfl (by decide) (by decide) la.sl.len la.sl.cells (by rfl) (slotV_one _) (by simp; omega) ?_
              intro sw kb gb
              have xb := gb.fix.next
              have ob := oa.fix gb.fix ⟨by omega, fun o m cc e => by have := nw _ _ _ _ e; omega⟩
              have wb : In (fun b => h6.next ≤ b ∧ b < kb.next) sw := fun b o n c e => ⟨by
                rcases gb.own _ _ _ _ e with q | ⟨o, k, c, q⟩
                · omega
                · exact (nw _ _ _ _ q).1, gb.low _ _ _ _ e⟩
              (try simp (maxSteps := 2000000) only [wk, wl, wx, reduceLT, reduceEqDiff, Nat.reduceBEq, reduceIte, wd, Chk, and_true, true_and, t6, fa50_5, Nat.zero_add])
              refine sat_store ob ty48 (by rw [gb.buf.sl.one.1]; rfl) (by simp) (by rw [gb.buf.sl.one.1]; simp [gb.buf.sl.one.2]) ?_
              intro kz oz nz fz
              rw [gb.buf.sl.one.1] at oz
              (try simp (maxSteps := 2000000) only [wk, wl, wx, reduceLT, reduceEqDiff, Nat.reduceBEq, reduceIte, wd, Chk, and_true, true_and])
              ((repeat refine WC.seq ?_); refine WC.run ?_)
              (try simp only [wk, wl, wx, reduceLT, reduceEqDiff, Nat.reduceBEq, reduceIte, tn, bin_sub, i64])
              have hle := rslotR_le s'.1
              refine ⟨m, by omega, _, n' - 1, adv rslotR s', sw, rfl, ⟨?_, oz, ?_, wb.sub fun b hb => by omega, ⟨by omega, fun b hb => ?_⟩, by show (rslotR s'.1).2.xs.length ≤ _; omega, by simp [adv]; omega, fun hb => ?_⟩, by omega, fun hb => ?_, he.trans hE, ?_⟩
              · exact ((rA.fix fa (by omega) (fun b hb => by omega)).fix gb.fix ⟨by omega, fun o m cc e => by have := nw _ _ _ _ e; omega⟩ (fun b hb => ⟨by omega, fun o m cc e => by have := nw _ _ _ _ e; omega⟩)).fix fz (by omega) (fun b hb => by omega)
              · have := gb.buf.fix (K := (· ≠ q)) (wb.sub fun b hb => by omega) fz
                simpa [adv, List.flatMap_append] using this
              · rw [fz.same b (by omega), gb.fix.same b ⟨by omega, fun o m cc e => by have := nw _ _ _ _ e; omega⟩, fa.same b (by omega), FA.same b ⟨by omega, by omega⟩, fA.same b hb]
              · have h1 := (rslotR_bad (s := s'.1) hb).2
                simp only [adv, List.length_append, List.length_cons, List.length_nil]; omega
              · have h1 := (rslotR_bad (s := s'.1) hb).2
                show (rslotR s'.1).2.xs.length < m
                omega
              (try simp only [wk, wl, wx, reduceLT, reduceEqDiff, Nat.reduceBEq, reduceIte, t0, t2, t4, t6])
              refine ⟨trivial, trivial, trivial, trivial, ?_⟩
              rw [wrap64 (by omega) (by omega)]
          · (try simp only [wk, wl, wx, reduceLT, reduceEqDiff, Nat.reduceBEq, reduceIte, tn, i64, decide_eq_false hp, un])
            (repeat refine WC.seq ?_)
            refine WC.cond (b := false) (by (try simp only [wk, wl, wx, reduceLT, reduceEqDiff, Nat.reduceBEq, reduceIte]); (try simp); (try omega)) (WC.exit ?_)
            (try simp only [wk, wl, wx, reduceLT, reduceEqDiff, Nat.reduceBEq, reduceIte])
            exact ⟨by trivial, _, sv, rfl, stop (by simp; omega), by (try simp only [wk, wl, wx, reduceLT, reduceEqDiff, Nat.reduceBEq, reduceIte, t0]), by (try simp only [wk, wl, wx, reduceLT, reduceEqDiff, Nat.reduceBEq, reduceIte, t2]), by (try simp only [wk, wl, wx, reduceLT, reduceEqDiff, Nat.reduceBEq, reduceIte, t4]), by (try simp only [wk, wl, wx, reduceLT, reduceEqDiff, Nat.reduceBEq, reduceIte, t6])⟩
        all_goals (try simp only [wk, wl, wx, reduceLT, reduceEqDiff, Nat.reduceBEq, reduceIte, t0, t2, t4, t6])
        all_goals (first | trivial | rfl | simp)
      · rintro e fr h7 ⟨rfl, ts, sv2, rfl, i7, t0, t2, t4, t6⟩
        have i7 : DI g h6 h1.next p0.xs.length rb q (fun zz => [i64 (rnumR p0).1, bv, i64 (rnumR (y2R p0)).1, i64 (rnumR (y3R p0)).1, sv1, zz, .nils]) 136 3 (fun L => L.flatMap slotV) (rslotsR b.length p0) h7 sv2 := i7
        have r7 := i7.rd
        have q7 : Has h7 q [i64 (rnumR p0).1, bv, i64 (rnumR (y2R p0)).1, i64 (rnumR (y3R p0)).1, sv1, sv2, .nils] := i7.co
        have x7 := i7.fx.next
        have l7 : (rslotsR b.length p0).1.xs.length ≤ p0.xs.length := i7.xs
        (try simp only [wk, wl, wx, reduceLT, reduceEqDiff, Nat.reduceBEq, reduceIte])
        ((repeat refine WC.seq ?_); refine WC.run ?_)
        (try simp only [wk, wl, wx, reduceLT, reduceEqDiff, Nat.reduceBEq, reduceIte, t4])
        refine (cnt_ok r7 (by omega) (by omega)).mono fun v hc ⟨ec, rc, nc, fc⟩ => ?_
        subst ec
        have qc := q7.fix fc (by omega)
        have lc := cntR_le (rslotsR b.length p0).1
        (try simp only [wk, wl, wx, reduceLT, reduceEqDiff, Nat.reduceBEq, reduceIte])
        (repeat refine WC.seq ?_)
        refine WC.mono (Q := fun e fr hh => e = .normal ∧ ∃ ts sv, fr = ⟨ts, 119, [], 21, none⟩ ∧ DI g h7 h1.next p0.xs.length rb q (fun zz => [i64 (rnumR p0).1, bv, i64 (rnumR (y2R p0)).1, i64 (rnumR (y3R p0)).1, sv1, sv2, zz]) 9 1 (fun L => L.map V.str) (eachR (fun x => x.1) (adv rtxtR) b.length (cntR (rslotsR b.length p0).1).1 ((cntR (rslotsR b.length p0).1).2, [])) hh sv ∧ ts.get 0 = some s ∧ ts.get 2 = some (.ptr h.next 0) ∧ ts.get 4 = some (.ptr rb 0) ∧ ts.get 6 = some (.ptr q 0)) (WC.block ?_) ?_
        · refine WC.while (fun m fr hh => ∃ ts n' s' sv, fr = ⟨ts, 119, [], 21, none⟩ ∧ DI g h7 h1.next p0.xs.length rb q (fun zz => [i64 (rnumR p0).1, bv, i64 (rnumR (y2R p0)).1, i64 (rnumR (y3R p0)).1, sv1, sv2, zz]) 9 1 (fun L => L.map V.str) s' hh sv ∧ n' < 2 ^ 63 ∧ (s'.1.bad = false → s'.1.xs.length < m) ∧ eachR (fun x => x.1) (adv rtxtR) b.length (cntR (rslotsR b.length p0).1).1 ((cntR (rslotsR b.length p0).1).2, []) = eachR (fun x => x.1) (adv rtxtR) m n' s' ∧ ts.get 0 = some s ∧ ts.get 2 = some (.ptr h.next 0) ∧ ts.get 4 = some (.ptr rb 0) ∧ ts.get 6 = some (.ptr q 0) ∧ ts.get 9 = some (i64 n')) ?_ ⟨_, (cntR (rslotsR b.length p0).1).1, ((cntR (rslotsR b.length p0).1).2, []), .nils, rfl, ⟨rc, qc, .nil, In.nils, ⟨by omega, fun b hb => fc.same b hb.2.1⟩, by show (cntR (rslotsR b.length p0).1).2.xs.length ≤ _; omega, Nat.zero_le _, fun _ => by show 0 + (cntR (rslotsR b.length p0).1).2.xs.length ≤ _; omega⟩, cntR_lt _, fun _ => by show (cntR (rslotsR b.length p0).1).2.xs.length < _; omega, rfl, ?_, ?_, ?_, ?_, ?_⟩
          · rintro m fr hh ⟨ts, n', s', sv, rfl, ii, hn', hm, he, t0, t2, t4, t6, tn⟩
            obtain ⟨bsl, bb, _, _⟩ := ii.rd
            have stop (hs : ¬ (0 < n' ∧ s'.1.bad = false)) : DI g h7 h1.next p0.xs.length rb q (fun zz => [i64 (rnumR p0).1, bv, i64 (rnumR (y2R p0)).1, i64 (rnumR (y3R p0)).1, sv1, sv2, zz]) 9 1 (fun L => L.map V.str) (eachR (fun x => x.1) (adv rtxtR) b.length (cntR (rslotsR b.length p0).1).1 ((cntR (rslotsR b.length p0).1).2, [])) hh sv := by
              rw [he]
              cases m with
              | zero => exact ii
              | succ m => rw [eachR, if_neg hs]; exact ii
            ((repeat refine WC.seq ?_); refine WC.run ?_)
            rcases Decidable.em (0 < n') with hp | hp
            · cases hbd : s'.1.bad with
              | true =>
                rw [hbd] at bb
                (try simp only [wk, wl, wx, reduceLT, reduceEqDiff, Nat.reduceBEq, reduceIte, tn, t4, i64, decide_eq_true hp, un, fa131_1, Nat.zero_add, bb.at ty4 rfl, Bool.not_true])
                (repeat refine WC.seq ?_)
                refine WC.cond (b := false) (by (try simp only [wk, wl, wx, reduceLT, reduceEqDiff, Nat.reduceBEq, reduceIte]); (try simp); (try omega)) (WC.exit ?_)
                (try simp only [wk, wl, wx, reduceLT, reduceEqDiff, Nat.reduceBEq, reduceIte])
                exact ⟨by trivial, _, sv, rfl, stop (by rw [hbd]; simp), by (try simp only [wk, wl, wx, reduceLT, reduceEqDiff, Nat.reduceBEq, reduceIte, t0]), by (try simp only [wk, wl, wx, reduceLT, reduceEqDiff, Nat.reduceBEq, reduceIte, t2]), by (try simp only [wk, wl, wx, reduceLT, reduceEqDiff, Nat.reduceBEq, reduceIte, t4]), by (try simp only [wk, wl, wx, reduceLT, reduceEqDiff, Nat.reduceBEq, reduceIte, t6])⟩
              | false =>
                rw [hbd] at bb
                (try simp only [wk, wl, wx, reduceLT, reduceEqDiff, Nat.reduceBEq, reduceIte, tn, t4, i64, decide_eq_true hp, un, fa131_1, Nat.zero_add, bb.at ty4 rfl, Bool.not_false])
                (repeat refine WC.seq ?_)
                refine WC.cond (b := true) (by (try simp only [wk, wl, wx, reduceLT, reduceEqDiff, Nat.reduceBEq, reduceIte]); (try simp); (try omega)) (WC.skip ?_)
                (try simp only [wk, wl, wx, reduceLT, reduceEqDiff, Nat.reduceBEq, reduceIte])
                have hmb := hm hbd
                obtain ⟨m, rfl⟩ : ∃ m', m = m' + 1 := ⟨m - 1, by omega⟩
                have hE : eachR (fun x => x.1) (adv rtxtR) (m + 1) n' s' = eachR (fun x => x.1) (adv rtxtR) m (n' - 1) (adv rtxtR s') := by rw [eachR, if_pos ⟨hp, hbd⟩]
                obtain ⟨r0, o0, bu0, nw, fA, lA, lnA, smA⟩ := ii
                have sm0 := smA hbd
                have xA := fA.next
                obtain ⟨k0, hk0⟩ : ∃ k0, k0 = hh := ⟨hh, rfl⟩
                subst hk0
                have F0 := Fix.refl (· ≠ rb) k0
                (repeat refine WC.seq ?_)
                refine WC.block ?_
                ((repeat refine WC.seq ?_); refine WC.draw (plans := pl21_16) (by kernel_rfl) ?_; simp only [pl21_16, List.mem_cons, List.not_mem_nil, or_false, forall_eq_or_imp, forall_eq])
                (try simp (maxSteps := 2000000) only [wk, wl, wx, reduceLT, reduceEqDiff, Nat.reduceBEq, reduceIte, wd, Chk, and_true, true_and, t4, t6, fa50_6, Nat.zero_add, o0.at ty25 rfl])
                refine (rtxt_ok r0 (by omega) (by omega)).mono fun v k1 ⟨e1, r1, n1, g1⟩ => ?_
                subst e1
                have l1 := rtxtR_le s'.1
                have F1 : Fix (· ≠ rb) k0 k1 := F0.trans g1
                have o1 := o0.fix F1 (by omega)
                (try simp (maxSteps := 2000000) only [wk, wl, wx, reduceLT, reduceEqDiff, Nat.reduceBEq, reduceIte, wd, Chk, and_true, true_and, t4, t6, fa50_6, Nat.zero_add, o1.at ty25 rfl])
                have rA : Rd g k1 (· < h1.next) rb (rtxtR s'.1).2 := r1
                have FA : Fix (fun b => b < k0.next ∧ b ≠ rb) k0 k1 := F1.sub fun b hb => hb.2
                have bu1 := bu0.fix (nw.sub fun b hb => (⟨by omega, by omega⟩ : b < k0.next ∧ b ≠ rb)) FA
                refine sat_slice1 ty25 rfl ty9 rfl rfl rfl ?_
                intro ka la na fa
                have oa := o1.fix fa (by omega)
                have bua := bu1.fix (nw.sub fun b hb => by omega) fa
                (try simp (maxSteps := 2000000) only [wk, wl, wx, reduceLT, reduceEqDiff, Nat.reduceBEq, reduceIte, wd, Chk, and_true, true_and, t4, t6, fa50_6, Nat.zero_add, oa.at ty25 rfl])
                refine sat_grow bua (nw.sub fun b hb => by omega) ty25 rfl ty25 (.inl ⟨_, rfl⟩) ty9 rfl (by decide) (by decide) la.sl.len la.sl.cells (by rfl) (by rfl) (by simp; omega) ?_
                intro sw kb gb
                have xb := gb.fix.next
                have ob := oa.fix gb.fix ⟨by omega, fun o m cc e => by have := nw _ _ _ _ e; omega⟩
                have wb : In (fun b => h7.next ≤ b ∧ b < kb.next) sw := fun b o n c e => ⟨by
                  rcases gb.own _ _ _ _ e with q | ⟨o, k, c, q⟩
                  · omega
                  · exact (nw _ _ _ _ q).1, gb.low _ _ _ _ e⟩
                (try simp (maxSteps := 2000000) only [wk, wl, wx, reduceLT, reduceEqDiff, Nat.reduceBEq, reduceIte, wd, Chk, and_true, true_and, t6, fa50_6, Nat.zero_add])
                refine sat_store ob ty25 (by rw [gb.buf.sl.one.1]; rfl) (by simp) (by rw [gb.buf.sl.one.1]; simp [gb.buf.sl.one.2]) ?_
                intro kz oz nz fz
                rw [gb.buf.sl.one.1] at oz
                (try simp (maxSteps := 2000000) only [wk, wl, wx, reduceLT, reduceEqDiff, Nat.reduceBEq, reduceIte, wd, Chk, and_true, true_and])
                ((repeat refine WC.seq ?_); refine WC.run ?_)
                (try simp only [wk, wl, wx, reduceLT, reduceEqDiff, Nat.reduceBEq, reduceIte, tn, bin_sub, i64])
                have hle := rtxtR_le s'.1
                refine ⟨m, by omega, _, n' - 1, adv rtxtR s', sw, rfl, ⟨?_, oz, ?_, wb.sub fun b hb => by omega, ⟨by omega, fun b hb => ?_⟩, by show (rtxtR s'.1).2.xs.length ≤ _; omega, by simp [adv]; omega, fun hb => ?_⟩, by omega, fun hb => ?_, he.trans hE, ?_⟩
                · exact ((rA.fix fa (by omega) (fun b hb => by omega)).fix gb.fix ⟨by omega, fun o m cc e => by have := nw _ _ _ _ e; omega⟩ (fun b hb => ⟨by omega, fun o m cc e => by have := nw _ _ _ _ e; omega⟩)).fix fz (by omega) (fun b hb => by omega)
                · have := gb.buf.fix (K := (· ≠ q)) (wb.sub fun b hb => by omega) fz
                  simpa [adv, List.flatMap_append] using this
                · rw [fz.same b (by omega), gb.fix.same b ⟨by omega, fun o m cc e => by have := nw _ _ _ _ e; omega⟩, fa.same b (by omega), FA.same b ⟨by omega, by omega⟩, fA.same b hb]
                · have h1 := (rtxtR_bad (s := s'.1) hb).2
                  simp only [adv, List.length_append, List.length_cons, List.length_nil]; omega
                · have h1 := (rtxtR_bad (s := s'.1) hb).2
                  show (rtxtR s'.1).2.xs.length < m
                  omega
                (try simp only [wk, wl, wx, reduceLT, reduceEqDiff, Nat.reduceBEq, reduceIte, t0, t2, t4, t6])
                refine ⟨trivial, trivial, trivial, trivial, ?_⟩
                rw [wrap64 (by omega) (by omega)]
            · (try simp only [wk, wl, wx, reduceLT, reduceEqDiff, Nat.reduceBEq, reduceIte, tn, i64, decide_eq_false hp, un])
              (repeat refine WC.seq ?_)
              refine WC.cond (b := false) (by (try simp only [wk, wl, wx, reduceLT, reduceEqDiff, Nat.reduceBEq, reduceIte]); (try simp); (try omega)) (WC.exit ?_)
              (try simp only [wk, wl, wx, reduceLT, reduceEqDiff, Nat.reduceBEq, reduceIte])
              exact ⟨by trivial, _, sv, rfl, stop (by simp; omega), by (try simp only [wk, wl, wx, reduceLT, reduceEqDiff, Nat.reduceBEq, reduceIte, t0]), by (try simp only [wk, wl, wx, reduceLT, reduceEqDiff, Nat.reduceBEq, reduceIte, t2]), by (try simp only [wk, wl, wx, reduceLT, reduceEqDiff, Nat.reduceBEq, reduceIte, t4]), by (try simp only [wk, wl, wx, reduceLT, reduceEqDiff, Nat.reduceBEq, reduceIte, t6])⟩
          all_goals (try simp only [wk, wl, wx, reduceLT, reduceEqDiff, Nat.reduceBEq, reduceIte, t0, t2, t4, t6])
          all_goals (first | trivial | rfl | simp)
        · rintro e fr h8 ⟨rfl, ts, sv3, rfl, i8, t0, t2, t4, t6⟩
          have i8 : DI g h7 h1.next p0.xs.length rb q (fun zz => [i64 (rnumR p0).1, bv, i64 (rnumR (y2R p0)).1, i64 (rnumR (y3R p0)).1, sv1, sv2, zz]) 9 1 (fun L => L.map V.str) (rineedsR b.length p0) h8 sv3 := i8
          have r8 := i8.rd
          have q8 : Has h8 q [i64 (rnumR p0).1, bv, i64 (rnumR (y2R p0)).1, i64 (rnumR (y3R p0)).1, sv1, sv2, sv3] := i8.co
          have x8 := i8.fx.next
          have l8 : (rineedsR b.length p0).1.xs.length ≤ p0.xs.length := i8.xs
          (try simp only [wk, wl, wx, reduceLT, reduceEqDiff, Nat.reduceBEq, reduceIte])
          have qz : Has h8 q ((⟨bv, sv1, sv2, sv3⟩ : Ic).cells (rimgR b.length p0).1) := q8
          have G7 : Fix (fun b => b < h7.next ∧ b ≠ rb ∧ b ≠ q) h7 h8 := i8.fx
          have G6 : Fix (fun b => b < h6.next ∧ b ≠ rb ∧ b ≠ q) h6 h8 := i7.fx.trans (G7.sub fun b hb => ⟨by omega, hb.2⟩)
          have G5 : Fix (fun b => b < h5.next ∧ b ≠ rb ∧ b ≠ q) h5 h8 := i6.fx.trans (G6.sub fun b hb => ⟨by omega, hb.2⟩)
          have Gh : Fix (· < h.next) h h8 := ⟨by omega, fun c hc => by rw [G5.same c ⟨by omega, by omega, by omega⟩, F5.same c ⟨by omega, by omega⟩, F2.same c (by omega), f1.same c hc]⟩
          have bz := b5.fix G5 ⟨by omega, by omega, by omega⟩
          have hbz := Sl.fix hb5 (hs1.sub fun b hb => (⟨by omega, by omega, by omega⟩ : b < h5.next ∧ b ≠ rb ∧ b ≠ q)) G5
          have obz : Im g h8 (fun b => h2.next ≤ b ∧ b < h8.next) (⟨bv, sv1, sv2, sv3⟩ : Ic) (rimgR b.length p0).1 :=
            ⟨Sl.fix bv5 (bw.sub fun b hb => (⟨by omega, by omega, by omega⟩ : b < h5.next ∧ b ≠ rb ∧ b ≠ q)) G5,
              (i6.bu.fix (i6.nw.sub fun b hb => (⟨by omega, by omega, by omega⟩ : b < h6.next ∧ b ≠ rb ∧ b ≠ q)) G6).sl, (i7.bu.fix (i7.nw.sub fun b hb => (⟨by omega, by omega, by omega⟩ : b < h7.next ∧ b ≠ rb ∧ b ≠ q)) G7).sl, i8.bu.sl,
              bw.sub fun b hb => by omega, i6.nw.sub fun b hb => by omega, i7.nw.sub fun b hb => by omega, i8.nw.sub fun b hb => by omega⟩
          have fit : FitsI (rimgR b.length p0).1 := ⟨by have := rtxtR_out (y1R p0); show (rtxtR (y1R p0)).1.length < _; omega, by have := i6.ln; show (rexpsR b.length p0).2.length < _; omega, by have := i7.ln; show (rslotsR b.length p0).2.length < _; omega, by have := i8.ln; show (rineedsR b.length p0).2.length < _; omega⟩
          have lz : loadP (E g) h8 50 (.ptr q 0) = some (.agg ((⟨bv, sv1, sv2, sv3⟩ : Ic).cells (rimgR b.length p0).1)) := qz.agg ty50 rfl (Nat.le_refl 7)
          have hd (hc : (rimgR b.length p0).2 = true ∨ rightB (rimgR b.length p0).1 = false ∨ imgB (rimgR b.length p0).1 ≠ b) : rreadP b = (zeroI, 12) := by
            unfold rreadP; rw [if_neg (not_not_intro hoe), hp0, if_pos hc]
          obtain ⟨bs, rz1, rz2, rz3⟩ := r8
          have hbad : (rineedsR b.length p0).1.bad = (rimgR b.length p0).2 := rfl
          rw [hbad] at rz1
          ((repeat refine WC.seq ?_); refine WC.run ?_)
          cases hbd : (rimgR b.length p0).2 with
          | true =>
            rw [hbd] at rz1
            (try simp only [wk, wl, wx, reduceLT, reduceEqDiff, Nat.reduceBEq, reduceIte, t4, fa131_1, Nat.zero_add, rz1.at ty4 rfl])
            (repeat refine WC.seq ?_)
            refine WC.cond (b := true) (by (try simp only [wk, wl, wx, reduceLT, reduceEqDiff, Nat.reduceBEq, reduceIte]); (try simp); (try omega)) ?_
            ((repeat refine WC.seq ?_); refine WC.run ?_)
            (try simp only [wk, wl, wx, reduceLT, reduceEqDiff, Nat.reduceBEq, reduceIte, t2, build50_0])
            refine sat_store bz ty50 rfl (Nat.le_refl 7) rfl ?_
            intro hf bf nf ff
            have lf : loadP (E g) hf 50 (.ptr h.next 0) = some (.agg [i64 0, .nils, i64 0, i64 0, .nils, .nils, .nils]) := bf.agg ty50 rfl (Nat.le_refl 7)
            (try simp only [wk, wl, wx, reduceLT, reduceEqDiff, Nat.reduceBEq, reduceIte])
            refine WC.ret ?_
            (try simp only [wk, wl, wx, reduceLT, reduceEqDiff, Nat.reduceBEq, reduceIte, t2, lf])
            rw [hd (.inl hbd)]
            exact ⟨⟨by omega, fun c hc => by rw [ff.same c (by omega), Gh.same c hc]⟩, ⟨.nils, .nils, .nils, .nils⟩, rfl, zeroI_im⟩
          | false =>
            rw [hbd] at rz1
            (try simp only [wk, wl, wx, reduceLT, reduceEqDiff, Nat.reduceBEq, reduceIte, t4, fa131_1, Nat.zero_add, rz1.at ty4 rfl])
            (repeat refine WC.seq ?_)
            refine WC.cond (b := false) (by (try simp only [wk, wl, wx, reduceLT, reduceEqDiff, Nat.reduceBEq, reduceIte]); (try simp); (try omega)) (WC.skip ?_)
            (try simp only [wk, wl, wx, reduceLT, reduceEqDiff, Nat.reduceBEq, reduceIte])
            ((repeat refine WC.seq ?_); refine WC.run ?_)
            (try simp only [wk, wl, wx, reduceLT, reduceEqDiff, Nat.reduceBEq, reduceIte, t6, lz])
            refine (rwrite_ok (obz.up fun b hb => hb.2) fit).mono fun v he ⟨Ge, ce1, ce2⟩ => ?_
            have xe := Ge.next
            have be := bz.fix Ge (by omega)
            have hbe := Sl.fix hbz (hs1.sub fun b hb => by omega) Ge
            have obe := obz.fix Ge (fun b hb => hb.2)
            have le : loadP (E g) he 50 (.ptr q 0) = some (.agg ((⟨bv, sv1, sv2, sv3⟩ : Ic).cells (rimgR b.length p0).1)) := (qz.fix Ge (by omega)).agg ty50 rfl (Nat.le_refl 7)
            have Fe : Kept h he := Gh.trans (Ge.sub fun b hb => by omega)
            cases hck : rightB (rimgR b.length p0).1 with
            | false =>
              have hv := ce1 hck
              subst hv
              have hne : ((14 : Int) != (0 : Int)) = true := rfl
              (try simp only [wk, wl, wx, reduceLT, reduceEqDiff, Nat.reduceBEq, reduceIte])
              ((repeat refine WC.seq ?_); refine WC.run ?_)
              (try simp only [wk, wl, wx, reduceLT, reduceEqDiff, Nat.reduceBEq, reduceIte, un, i64, hne])
              (repeat refine WC.seq ?_)
              refine WC.cond (b := true) (by (try simp only [wk, wl, wx, reduceLT, reduceEqDiff, Nat.reduceBEq, reduceIte]); (try simp); (try omega)) ?_
              ((repeat refine WC.seq ?_); refine WC.run ?_)
              (try simp only [wk, wl, wx, reduceLT, reduceEqDiff, Nat.reduceBEq, reduceIte, t2, build50_0])
              refine sat_store be ty50 rfl (Nat.le_refl 7) rfl ?_
              intro hf bf nf ff
              have lf : loadP (E g) hf 50 (.ptr h.next 0) = some (.agg [i64 0, .nils, i64 0, i64 0, .nils, .nils, .nils]) := bf.agg ty50 rfl (Nat.le_refl 7)
              (try simp only [wk, wl, wx, reduceLT, reduceEqDiff, Nat.reduceBEq, reduceIte])
              refine WC.ret ?_
              (try simp only [wk, wl, wx, reduceLT, reduceEqDiff, Nat.reduceBEq, reduceIte, t2, lf])
              rw [hd (.inr (.inl hck))]
              exact ⟨⟨by omega, fun c hc => by rw [ff.same c (by omega), Fe.same c hc]⟩, ⟨.nils, .nils, .nils, .nils⟩, rfl, zeroI_im⟩
            | true =>
              obtain ⟨sa, hv, sb, sc⟩ := ce2 hck
              subst hv
              have hne : ((0 : Int) != (0 : Int)) = false := rfl
              (try simp only [wk, wl, wx, reduceLT, reduceEqDiff, Nat.reduceBEq, reduceIte])
              ((repeat refine WC.seq ?_); refine WC.run ?_)
              (try simp only [wk, wl, wx, reduceLT, reduceEqDiff, Nat.reduceBEq, reduceIte, t0, un, i64, hne, conv_str sb.sl, conv_str hbe, bin_sneq])
              (repeat refine WC.seq ?_)
              by_cases heq : imgB (rimgR b.length p0).1 = b
              · refine WC.cond (b := false) (by (try simp only [wk, wl, wx, reduceLT, reduceEqDiff, Nat.reduceBEq, reduceIte]); simp [heq]) (WC.skip ?_)
                (try simp only [wk, wl, wx, reduceLT, reduceEqDiff, Nat.reduceBEq, reduceIte])
                ((repeat refine WC.seq ?_); refine WC.run ?_)
                (try simp only [wk, wl, wx, reduceLT, reduceEqDiff, Nat.reduceBEq, reduceIte, t6, t2, le])
                refine sat_store be ty50 rfl (Nat.le_refl 7) (by simp only [V.cells, Ic.cells, List.all_cons, List.all_nil, (Sl.one obe.bytes).2, (Sl.one obe.exps).2, (Sl.one obe.slots).2, (Sl.one obe.needs).2, Bool.and_true]; rfl) ?_
                intro hf bf nf ff
                have lf : loadP (E g) hf 50 (.ptr h.next 0) = some (.agg ((⟨bv, sv1, sv2, sv3⟩ : Ic).cells (rimgR b.length p0).1)) := bf.agg ty50 rfl (Nat.le_refl 7)
                (try simp only [wk, wl, wx, reduceLT, reduceEqDiff, Nat.reduceBEq, reduceIte])
                refine WC.ret ?_
                (try simp only [wk, wl, wx, reduceLT, reduceEqDiff, Nat.reduceBEq, reduceIte, t2, lf])
                have hdk : rreadP b = ((rimgR b.length p0).1, 0) := by
                  unfold rreadP
                  rw [if_neg (not_not_intro hoe), hp0, if_neg (by rintro (q | q | q); rw [hbd] at q; cases q; rw [hck] at q; cases q; exact q heq)]
                rw [hdk]
                exact ⟨⟨by omega, fun c hc => by rw [ff.same c (by omega), Fe.same c hc]⟩, _, rfl, (obe.fix (K' := (· ≠ h.next)) ff fun b hb => by omega).up fun b hb => by omega⟩
              · have hbn : (imgB (rimgR b.length p0).1 == b) = false := by simpa using heq
                (try simp only [wk, wl, wx, reduceLT, reduceEqDiff, Nat.reduceBEq, reduceIte, hbn, Bool.not_false])
                refine WC.cond (b := true) (by (try simp only [wk, wl, wx, reduceLT, reduceEqDiff, Nat.reduceBEq, reduceIte]); (try simp); (try omega)) ?_
                ((repeat refine WC.seq ?_); refine WC.run ?_)
                (try simp only [wk, wl, wx, reduceLT, reduceEqDiff, Nat.reduceBEq, reduceIte, t2, build50_0])
                refine sat_store be ty50 rfl (Nat.le_refl 7) rfl ?_
                intro hf bf nf ff
                have lf : loadP (E g) hf 50 (.ptr h.next 0) = some (.agg [i64 0, .nils, i64 0, i64 0, .nils, .nils, .nils]) := bf.agg ty50 rfl (Nat.le_refl 7)
                (try simp only [wk, wl, wx, reduceLT, reduceEqDiff, Nat.reduceBEq, reduceIte])
                refine WC.ret ?_
                (try simp only [wk, wl, wx, reduceLT, reduceEqDiff, Nat.reduceBEq, reduceIte, t2, lf])
                rw [hd (.inr (.inr heq))]
                exact ⟨⟨by omega, fun c hc => by rw [ff.same c (by omega), Fe.same c hc]⟩, ⟨.nils, .nils, .nils, .nils⟩, rfl, zeroI_im⟩
end Go.Proofs.OP
