/- Walks: Read. Printed by genr8.py. -/
import Derived.Test.YtloblhhnlaaajaaGreatDoorW15
import Derived.Test.YtloblhhnlaaajaaGreatDoorW36
set_option linter.unusedVariables false
set_option linter.unusedSimpArgs false
set_option linter.defProp false
set_option linter.unusedSimpArgs false
namespace Go.Proofs.OP
open Go Go.Ev
open Go.Proofs
open Nat (reduceLT reduceEqDiff)
variable {g : T (List V)}

def j1R (s : RdS) : RdS := (numR s).2
def j2R (s : RdS) : RdS := (bytR (j1R s)).2
def j3R (s : RdS) : RdS := (numR (j2R s)).2
def j4R (s : RdS) : RdS := (numR (j3R s)).2
theorem j1R_le (s : RdS) : (j1R s).xs.length ≤ s.xs.length := numR_le s
theorem j2R_le (s : RdS) : (j2R s).xs.length ≤ (j1R s).xs.length := bytR_le _
theorem j3R_le (s : RdS) : (j3R s).xs.length ≤ (j2R s).xs.length := numR_le _
theorem j4R_le (s : RdS) : (j4R s).xs.length ≤ (j3R s).xs.length := numR_le _
def expsR (k : Nat) (s : RdS) : RdS × List ExpD := listR expR k (j4R s)
def slotsR (k : Nat) (s : RdS) : RdS × List SlotD := listR slotR k (expsR k s).1
def ineedsR (k : Nat) (s : RdS) : RdS × List (List UInt8) := listR bytR k (slotsR k s).1
def imgR (k : Nat) (s : RdS) : ImgD × Bool := (⟨(numR s).1, (bytR (j1R s)).1, (numR (j2R s)).1, (numR (j3R s)).1, (expsR k s).2, (slotsR k s).2, (ineedsR k s).2⟩, (ineedsR k s).1.bad)
def zeroI : ImgD := ⟨0, [], 0, 0, [], [], []⟩
def readP (b : List UInt8) : ImgD × Int :=
  if openE 1 b ≠ 0 then (zeroI, openE 1 b)
  else if (imgR b.length ⟨inner b, false⟩).2 = true ∨ rightB (imgR b.length ⟨inner b, false⟩).1 = false ∨ imgB (imgR b.length ⟨inner b, false⟩).1 ≠ b then (zeroI, 12)
  else ((imgR b.length ⟨inner b, false⟩).1, 0)
theorem build56_0 : buildV (E g) 56 [] = some (.agg [i64 0, .nils, i64 0, i64 0, .nils, .nils, .nils]) := by
  simp only [buildV, ty56, fillAll, List.all_cons, List.all_nil, ty2, ty22, ty53, ty54, ty25, Option.isSome_some, Bool.and_true, Bool.not_true, cond_false]
  rfl
theorem build56_4 {a b c : Int} {x : V} (hx : x.cells = [x]) : buildV (E g) 56 [(0, i64 a), (1, x), (2, i64 b), (3, i64 c)] = some (.agg [i64 a, x, i64 b, i64 c, .nils, .nils, .nils]) := by
  simp only [buildV, ty56, fillAll, nth, sizeOf_of ty2, sizeOf_of ty22, hx, List.all_cons, List.all_nil, ty2, ty22, ty53, ty54, ty25, Option.isSome_some, Bool.and_true, Bool.not_true, cond_false]
  rfl
theorem zeroI_im {h : H} {K : Nat → Prop} : Im g h K ⟨.nils, .nils, .nils, .nils⟩ zeroI := ⟨Sl.nil, Sl.nil, Sl.nil, Sl.nil, In.nils, In.nils, In.nils, In.nils⟩
theorem imgB_len {x : ImgD} (sm : SmallI x) : (imgB x).length ≤ 2000000 := by
  obtain ⟨-, -, -, s4, -, -, -, s7⟩ := sm.head
  have s5 := sm.exps
  have s6 := sm.slots
  have a1 : (x.exps.flatMap expB).length ≤ 80 * x.exps.length := flatB_len fun y hy => by
    have := sm.ename y hy
    simp only [expB, List.length_append, txt1_len, numB_length, List.length_cons, List.length_nil]; omega
  have a2 : (x.slots.flatMap slotB).length ≤ 88 * x.slots.length := flatB_len fun y hy => by
    have := sm.sname y hy
    simp only [slotB, List.length_append, txt1_len, numB_length, List.length_cons, List.length_nil]; omega
  have a3 : (txtB x.needs).length ≤ 72 * x.needs.length := txtB_length (B := 64) fun p hp => sm.nname p hp
  simp only [imgB, sealB, imgP, List.length_append, leB_length, txt1_len, numB_length, magB_len, List.length_cons, List.length_nil]
  omega
theorem inner_lenk {k : Nat} {b : List UInt8} (h : openE k b = 0) : 8 ≤ b.length ∧ (inner b).length + 8 ≤ b.length := by
  unfold openE at h
  split at h
  · cases h
  · rename_i q
    have h8 : 8 ≤ b.length := by omega
    exact ⟨h8, by unfold inner; simp; omega⟩

set_option maxRecDepth 100000 in
set_option maxHeartbeats 8000000 in
theorem read_ok {h : H} {s : V} {b : List UInt8} (hg : g.get 0 = some magG) (hb : Bs g h s b) (hs : In (· < h.next) s) (hn : NotG s) (hlen : b.length < 2 ^ 33) :
    WF (E g) 20 [s] h fun v h' => Kept h h' ∧ ∃ c, v = .tuple [.agg (c.cells (readP b).1), i64 (readP b).2] ∧ Im g h' (fun b => h.next ≤ b ∧ b < h'.next) c (readP b).1 := by
  refine WF.enter fn20 rfl ?_
  ((repeat refine WC.seq ?_); refine WC.run ?_)
  (try simp only [wk, wl, wx, reduceLT, reduceEqDiff, Nat.reduceBEq, reduceIte])
  refine wop_alloc ty56 ?_
  intro h1 b1 n1 f1
  have b1 : Has h1 h.next [i64 0, .nils, i64 0, i64 0, .nils, .nils, .nils] := b1
  (try simp only [wk, wl, wx, reduceLT, reduceEqDiff, Nat.reduceBEq, reduceIte])
  have hb1 := Sl.fix hb hs f1
  have hs1 : In (· < h1.next) s := hs.sub fun x hx => by omega
  ((repeat refine WC.seq ?_); refine WC.run ?_)
  (try simp only [wk, wl, wx, reduceLT, reduceEqDiff, Nat.reduceBEq, reduceIte])
  refine (opened_ok (k := 1) hg (by decide) hb1 hs1 hn (by omega)).mono fun v h2 ⟨F2, c1, c2⟩ => ?_
  have x2 := F2.next
  have b2 := b1.fix F2 (by omega)
  rcases (Decidable.em (openE 1 b = 0)).symm with hoe | hoe
  · have hv := c1 hoe
    subst hv
    (try simp only [wk, wl, wx, reduceLT, reduceEqDiff, Nat.reduceBEq, reduceIte])
    refine wop_alloc ty119 ?_
    intro h3 b3 n3 f3
    (try simp only [wk, wl, wx, reduceLT, reduceEqDiff, Nat.reduceBEq, reduceIte])
    refine sat_store b3 ty119 rfl (Nat.le_refl 1) rfl ?_
    intro h4 b4 n4 f4
    have b4 := (b2.fix f3 (by omega)).fix f4 (by omega)
    (try simp only [wk, wl, wx, reduceLT, reduceEqDiff, Nat.reduceBEq, reduceIte, i64])
    ((repeat refine WC.seq ?_); refine WC.run ?_)
    (try simp only [wk, wl, wx, reduceLT, reduceEqDiff, Nat.reduceBEq, reduceIte, i64])
    (repeat refine WC.seq ?_)
    refine WC.cond (b := true) (by (try simp only [wk, wl, wx, reduceLT, reduceEqDiff, Nat.reduceBEq, reduceIte, hoe]); (try simp); (try omega)) ?_
    ((repeat refine WC.seq ?_); refine WC.run ?_)
    (try simp only [wk, wl, wx, reduceLT, reduceEqDiff, Nat.reduceBEq, reduceIte, build56_0])
    refine sat_store b4 ty56 rfl (Nat.le_refl 7) rfl ?_
    intro h5 b5 n5 f5
    have l5 : loadP (E g) h5 56 (.ptr h.next 0) = some (.agg [i64 0, .nils, i64 0, i64 0, .nils, .nils, .nils]) := b5.agg ty56 rfl (Nat.le_refl 7)
    (try simp only [wk, wl, wx, reduceLT, reduceEqDiff, Nat.reduceBEq, reduceIte])
    refine WC.ret ?_
    (try simp only [wk, wl, wx, reduceLT, reduceEqDiff, Nat.reduceBEq, reduceIte, l5])
    have hd : readP b = (zeroI, openE 1 b) := by unfold readP; rw [if_pos hoe]
    rw [hd]
    exact ⟨⟨by omega, fun c hc => by rw [f5.same c (by omega), f4.same c (by omega), f3.same c (by omega), F2.same c (by omega), f1.same c hc]⟩, ⟨.nils, .nils, .nils, .nils⟩, rfl, zeroI_im⟩
  · obtain ⟨rb, e, w1, w2, r2⟩ := c2 hoe
    subst e
    (try simp only [wk, wl, wx, reduceLT, reduceEqDiff, Nat.reduceBEq, reduceIte])
    refine wop_alloc ty119 ?_
    intro h3 b3 n3 f3
    (try simp only [wk, wl, wx, reduceLT, reduceEqDiff, Nat.reduceBEq, reduceIte])
    refine sat_store b3 ty119 rfl (Nat.le_refl 1) rfl ?_
    intro h4 b4 n4 f4
    have v4 : Has h4 h2.next [.ptr rb 0] := b4
    have b4 := (b2.fix f3 (by omega)).fix f4 (by omega)
    have r4 := (r2.fix f3 (by omega) (fun b hb => by omega)).fix f4 (by omega) (fun b hb => by omega)
    have F4 : Fix (· < h2.next) h2 h4 := f3.trans (f4.sub fun b hb => by omega)
    have hb4 := Sl.fix (Sl.fix hb1 hs1 F2) (hs1.sub fun b hb => by omega) F4
    obtain ⟨vb, hvb⟩ : ∃ vb, vb = h2.next := ⟨_, rfl⟩
    rw [← hvb] at v4
    rw [← hvb]
    (try simp only [wk, wl, wx, reduceLT, reduceEqDiff, Nat.reduceBEq, reduceIte, i64])
    ((repeat refine WC.seq ?_); refine WC.run ?_)
    (try simp only [wk, wl, wx, reduceLT, reduceEqDiff, Nat.reduceBEq, reduceIte, i64])
    (repeat refine WC.seq ?_)
    refine WC.cond (b := false) (by (try simp only [wk, wl, wx, reduceLT, reduceEqDiff, Nat.reduceBEq, reduceIte]); (try simp); (try omega)) (WC.skip ?_)
    (try simp only [wk, wl, wx, reduceLT, reduceEqDiff, Nat.reduceBEq, reduceIte])
    have hil := inner_len b
    have hil8 := inner_lenk hoe
    generalize hp0 : (⟨inner b, false⟩ : RdS) = p0 at r4
    have lp0 : p0.xs.length + 8 ≤ b.length := by rw [← hp0]; exact hil8.2
    have i1 := j1R_le p0
    have i2 := j2R_le p0
    have i3 := j3R_le p0
    have i4 := j4R_le p0
    (repeat refine WC.seq ?_)
    refine WC.mono (Q := fun e fr hh => e = .normal ∧ ∃ ts q bv, fr = ⟨ts, 56, [], 20, none⟩ ∧ ts.get 0 = some s ∧ ts.get 2 = some (.ptr h.next 0) ∧ ts.get 4 = some (.ptr vb 0) ∧ ts.get 6 = some (.ptr q 0) ∧ h4.next ≤ q ∧ q < hh.next ∧ Has hh q [i64 (numR p0).1, bv, i64 (numR (j2R p0)).1, i64 (numR (j3R p0)).1, .nils, .nils, .nils] ∧
      Bs g hh bv (bytR (j1R p0)).1 ∧ In (fun b => h4.next ≤ b ∧ b < hh.next ∧ b ≠ q) bv ∧ Rd g hh (· < h1.next) rb (j4R p0) ∧ Fix (fun b => b < h4.next ∧ b ≠ rb) h4 hh) (WC.draw (plans := pl20_4) (by kernel_rfl) ?_) ?_
    · have v0 := v4
      have r0 := r4
      have vA := v4
      have F0 := Fix.refl (fun b => b < h4.next ∧ b ≠ rb) h4
      intro p hp
      simp only [pl20_4, List.mem_cons, List.not_mem_nil, or_false] at hp
      rcases hp with rfl | rfl | rfl | rfl | rfl
      · (try simp (maxSteps := 2000000) only [wk, wl, wx, reduceLT, reduceEqDiff, Nat.reduceBEq, reduceIte, wd, Chk, and_true, true_and, v0.at ty119 rfl])
        refine (number_ok r0 (by omega) (fun x hx => by omega) (by omega) (by omega)).mono fun v k1 ⟨e1, r1, fk1⟩ => ?_
        subst e1
        have xk1 := fk1.next
        have r1 : Rd g k1 (· < h1.next) rb (j1R p0) := r1
        have F1 : Fix (fun b => b < h4.next ∧ b ≠ rb) h4 k1 := F0.trans (fk1.sub fun b hb => ⟨by omega, hb.2⟩)
        have v1 := vA.fix F1 ⟨by omega, by omega⟩
        (try simp (maxSteps := 2000000) only [wk, wl, wx, reduceLT, reduceEqDiff, Nat.reduceBEq, reduceIte, wd, Chk, and_true, true_and, v1.at ty119 rfl])
        refine (rbytes_ok r1 (by omega) (fun x hx => by omega) (by omega) (by omega)).mono fun bv k2 ⟨bv2, r2, fk2⟩ => ?_
        have inbv := bv2.2
        have xk2 := fk2.next
        have r2 : Rd g k2 (· < h1.next) rb (j2R p0) := r2
        have F2 : Fix (fun b => b < h4.next ∧ b ≠ rb) h4 k2 := F1.trans (fk2.sub fun b hb => ⟨by omega, hb.2⟩)
        have v2 := vA.fix F2 ⟨by omega, by omega⟩
        (try simp (maxSteps := 2000000) only [wk, wl, wx, reduceLT, reduceEqDiff, Nat.reduceBEq, reduceIte, wd, Chk, and_true, true_and, v2.at ty119 rfl])
        refine (number_ok r2 (by omega) (fun x hx => by omega) (by omega) (by omega)).mono fun v k3 ⟨e3, r3, fk3⟩ => ?_
        subst e3
        have xk3 := fk3.next
        have r3 : Rd g k3 (· < h1.next) rb (j3R p0) := r3
        have F3 : Fix (fun b => b < h4.next ∧ b ≠ rb) h4 k3 := F2.trans (fk3.sub fun b hb => ⟨by omega, hb.2⟩)
        have v3 := vA.fix F3 ⟨by omega, by omega⟩
        have bv3 := bv2.keep fk3 (fun b k1 k2 => ⟨by omega, by omega⟩)
        (try simp (maxSteps := 2000000) only [wk, wl, wx, reduceLT, reduceEqDiff, Nat.reduceBEq, reduceIte, wd, Chk, and_true, true_and, v3.at ty119 rfl])
        refine (number_ok r3 (by omega) (fun x hx => by omega) (by omega) (by omega)).mono fun v k4 ⟨e4, r4, fk4⟩ => ?_
        subst e4
        have xk4 := fk4.next
        have r4 : Rd g k4 (· < h1.next) rb (j4R p0) := r4
        have F4 : Fix (fun b => b < h4.next ∧ b ≠ rb) h4 k4 := F3.trans (fk4.sub fun b hb => ⟨by omega, hb.2⟩)
        have v4 := vA.fix F4 ⟨by omega, by omega⟩
        have bv4 := bv3.keep fk4 (fun b k1 k2 => ⟨by omega, by omega⟩)
        (try simp (maxSteps := 2000000) only [wk, wl, wx, reduceLT, reduceEqDiff, Nat.reduceBEq, reduceIte, wd, Chk, and_true, true_and, v4.at ty119 rfl, build56_4 (Sl.one bv4.1).1])
        refine wop_alloc ty56 ?_
        intro k5 qk5 nk5 fk5
        have xk5 := fk5.next
        have F5 : Fix (fun b => b < h4.next ∧ b ≠ rb) h4 k5 := F4.trans (fk5.sub fun b hb => by omega)
        have v5 := vA.fix F5 ⟨by omega, by omega⟩
        have r5 := r4.fix fk5 (by omega) (fun b hb => by omega)
        have bv5 := bv4.keep fk5 (fun b k1 k2 => by omega)
        (try simp (maxSteps := 2000000) only [wk, wl, wx, reduceLT, reduceEqDiff, Nat.reduceBEq, reduceIte, wd, Chk, and_true, true_and, v5.at ty119 rfl, build56_4 (Sl.one bv5.1).1])
        refine sat_store qk5 ty56 rfl (Nat.le_refl 7) (by simp only [V.cells, List.all_cons, List.all_nil, (Sl.one bv5.1).2, Bool.and_true]; rfl) ?_
        intro hs qs ns fs
        (try simp (maxSteps := 2000000) only [wk, wl, wx, reduceLT, reduceEqDiff, Nat.reduceBEq, reduceIte, wd, Chk, and_true, true_and])
        refine ⟨_, k4.next, bv, rfl, ?_, ?_, ?_, ?_, by omega, by omega, qs, Sl.fix bv5.1 (K := (· ≠ k4.next)) (inbv.sub fun b hb => by omega) fs, inbv.sub fun b hb => by omega, r5.fix fs (by omega) (fun b hb => by omega), F5.trans (fs.sub fun b hb => by omega)⟩
        all_goals (try simp only [wk, wl, wx, reduceLT, reduceEqDiff, Nat.reduceBEq, reduceIte])
      · (try simp (maxSteps := 2000000) only [wk, wl, wx, reduceLT, reduceEqDiff, Nat.reduceBEq, reduceIte, wd, Chk, and_true, true_and, v0.at ty119 rfl])
        refine (number_ok r0 (by omega) (fun x hx => by omega) (by omega) (by omega)).mono fun v k1 ⟨e1, r1, fk1⟩ => ?_
        subst e1
        have xk1 := fk1.next
        have r1 : Rd g k1 (· < h1.next) rb (j1R p0) := r1
        have F1 : Fix (fun b => b < h4.next ∧ b ≠ rb) h4 k1 := F0.trans (fk1.sub fun b hb => ⟨by omega, hb.2⟩)
        have v1 := vA.fix F1 ⟨by omega, by omega⟩
        (try simp (maxSteps := 2000000) only [wk, wl, wx, reduceLT, reduceEqDiff, Nat.reduceBEq, reduceIte, wd, Chk, and_true, true_and, v1.at ty119 rfl])
        refine (rbytes_ok r1 (by omega) (fun x hx => by omega) (by omega) (by omega)).mono fun bv k2 ⟨bv2, r2, fk2⟩ => ?_
        have inbv := bv2.2
        have xk2 := fk2.next
        have r2 : Rd g k2 (· < h1.next) rb (j2R p0) := r2
        have F2 : Fix (fun b => b < h4.next ∧ b ≠ rb) h4 k2 := F1.trans (fk2.sub fun b hb => ⟨by omega, hb.2⟩)
        have v2 := vA.fix F2 ⟨by omega, by omega⟩
        (try simp (maxSteps := 2000000) only [wk, wl, wx, reduceLT, reduceEqDiff, Nat.reduceBEq, reduceIte, wd, Chk, and_true, true_and, v2.at ty119 rfl])
        refine (number_ok r2 (by omega) (fun x hx => by omega) (by omega) (by omega)).mono fun v k3 ⟨e3, r3, fk3⟩ => ?_
        subst e3
        have xk3 := fk3.next
        have r3 : Rd g k3 (· < h1.next) rb (j3R p0) := r3
        have F3 : Fix (fun b => b < h4.next ∧ b ≠ rb) h4 k3 := F2.trans (fk3.sub fun b hb => ⟨by omega, hb.2⟩)
        have v3 := vA.fix F3 ⟨by omega, by omega⟩
        have bv3 := bv2.keep fk3 (fun b k1 k2 => ⟨by omega, by omega⟩)
        (try simp (maxSteps := 2000000) only [wk, wl, wx, reduceLT, reduceEqDiff, Nat.reduceBEq, reduceIte, wd, Chk, and_true, true_and, v3.at ty119 rfl])
        refine wop_alloc ty56 ?_
        intro k4 qk4 nk4 fk4
        have xk4 := fk4.next
        have F4 : Fix (fun b => b < h4.next ∧ b ≠ rb) h4 k4 := F3.trans (fk4.sub fun b hb => by omega)
        have v4 := vA.fix F4 ⟨by omega, by omega⟩
        have r4 := r3.fix fk4 (by omega) (fun b hb => by omega)
        have bv4 := bv3.keep fk4 (fun b k1 k2 => by omega)
        (try simp (maxSteps := 2000000) only [wk, wl, wx, reduceLT, reduceEqDiff, Nat.reduceBEq, reduceIte, wd, Chk, and_true, true_and, v4.at ty119 rfl])
        refine (number_ok r4 (by omega) (fun x hx => by omega) (by omega) (by omega)).mono fun v k5 ⟨e5, r5, fk5⟩ => ?_
        subst e5
        have xk5 := fk5.next
        have r5 : Rd g k5 (· < h1.next) rb (j4R p0) := r5
        have F5 : Fix (fun b => b < h4.next ∧ b ≠ rb) h4 k5 := F4.trans (fk5.sub fun b hb => ⟨by omega, hb.2⟩)
        have v5 := vA.fix F5 ⟨by omega, by omega⟩
        have qk5 := qk4.fix fk5 ⟨by omega, by omega⟩
        have bv5 := bv4.keep fk5 (fun b k1 k2 => ⟨by omega, by omega⟩)
        (try simp (maxSteps := 2000000) only [wk, wl, wx, reduceLT, reduceEqDiff, Nat.reduceBEq, reduceIte, wd, Chk, and_true, true_and, v5.at ty119 rfl, build56_4 (Sl.one bv5.1).1])
        refine sat_store qk5 ty56 rfl (Nat.le_refl 7) (by simp only [V.cells, List.all_cons, List.all_nil, (Sl.one bv5.1).2, Bool.and_true]; rfl) ?_
        intro hs qs ns fs
        (try simp (maxSteps := 2000000) only [wk, wl, wx, reduceLT, reduceEqDiff, Nat.reduceBEq, reduceIte, wd, Chk, and_true, true_and])
        refine ⟨_, k3.next, bv, rfl, ?_, ?_, ?_, ?_, by omega, by omega, qs, Sl.fix bv5.1 (K := (· ≠ k3.next)) (inbv.sub fun b hb => by omega) fs, inbv.sub fun b hb => by omega, r5.fix fs (by omega) (fun b hb => by omega), F5.trans (fs.sub fun b hb => by omega)⟩
        all_goals (try simp only [wk, wl, wx, reduceLT, reduceEqDiff, Nat.reduceBEq, reduceIte])
      · (try simp (maxSteps := 2000000) only [wk, wl, wx, reduceLT, reduceEqDiff, Nat.reduceBEq, reduceIte, wd, Chk, and_true, true_and, v0.at ty119 rfl])
        refine (number_ok r0 (by omega) (fun x hx => by omega) (by omega) (by omega)).mono fun v k1 ⟨e1, r1, fk1⟩ => ?_
        subst e1
        have xk1 := fk1.next
        have r1 : Rd g k1 (· < h1.next) rb (j1R p0) := r1
        have F1 : Fix (fun b => b < h4.next ∧ b ≠ rb) h4 k1 := F0.trans (fk1.sub fun b hb => ⟨by omega, hb.2⟩)
        have v1 := vA.fix F1 ⟨by omega, by omega⟩
        (try simp (maxSteps := 2000000) only [wk, wl, wx, reduceLT, reduceEqDiff, Nat.reduceBEq, reduceIte, wd, Chk, and_true, true_and, v1.at ty119 rfl])
        refine (rbytes_ok r1 (by omega) (fun x hx => by omega) (by omega) (by omega)).mono fun bv k2 ⟨bv2, r2, fk2⟩ => ?_
        have inbv := bv2.2
        have xk2 := fk2.next
        have r2 : Rd g k2 (· < h1.next) rb (j2R p0) := r2
        have F2 : Fix (fun b => b < h4.next ∧ b ≠ rb) h4 k2 := F1.trans (fk2.sub fun b hb => ⟨by omega, hb.2⟩)
        have v2 := vA.fix F2 ⟨by omega, by omega⟩
        (try simp (maxSteps := 2000000) only [wk, wl, wx, reduceLT, reduceEqDiff, Nat.reduceBEq, reduceIte, wd, Chk, and_true, true_and, v2.at ty119 rfl])
        refine wop_alloc ty56 ?_
        intro k3 qk3 nk3 fk3
        have xk3 := fk3.next
        have F3 : Fix (fun b => b < h4.next ∧ b ≠ rb) h4 k3 := F2.trans (fk3.sub fun b hb => by omega)
        have v3 := vA.fix F3 ⟨by omega, by omega⟩
        have r3 := r2.fix fk3 (by omega) (fun b hb => by omega)
        have bv3 := bv2.keep fk3 (fun b k1 k2 => by omega)
        (try simp (maxSteps := 2000000) only [wk, wl, wx, reduceLT, reduceEqDiff, Nat.reduceBEq, reduceIte, wd, Chk, and_true, true_and, v3.at ty119 rfl])
        refine (number_ok r3 (by omega) (fun x hx => by omega) (by omega) (by omega)).mono fun v k4 ⟨e4, r4, fk4⟩ => ?_
        subst e4
        have xk4 := fk4.next
        have r4 : Rd g k4 (· < h1.next) rb (j3R p0) := r4
        have F4 : Fix (fun b => b < h4.next ∧ b ≠ rb) h4 k4 := F3.trans (fk4.sub fun b hb => ⟨by omega, hb.2⟩)
        have v4 := vA.fix F4 ⟨by omega, by omega⟩
        have qk4 := qk3.fix fk4 ⟨by omega, by omega⟩
        have bv4 := bv3.keep fk4 (fun b k1 k2 => ⟨by omega, by omega⟩)
        (try simp (maxSteps := 2000000) only [wk, wl, wx, reduceLT, reduceEqDiff, Nat.reduceBEq, reduceIte, wd, Chk, and_true, true_and, v4.at ty119 rfl])
        refine (number_ok r4 (by omega) (fun x hx => by omega) (by omega) (by omega)).mono fun v k5 ⟨e5, r5, fk5⟩ => ?_
        subst e5
        have xk5 := fk5.next
        have r5 : Rd g k5 (· < h1.next) rb (j4R p0) := r5
        have F5 : Fix (fun b => b < h4.next ∧ b ≠ rb) h4 k5 := F4.trans (fk5.sub fun b hb => ⟨by omega, hb.2⟩)
        have v5 := vA.fix F5 ⟨by omega, by omega⟩
        have qk5 := qk4.fix fk5 ⟨by omega, by omega⟩
        have bv5 := bv4.keep fk5 (fun b k1 k2 => ⟨by omega, by omega⟩)
        (try simp (maxSteps := 2000000) only [wk, wl, wx, reduceLT, reduceEqDiff, Nat.reduceBEq, reduceIte, wd, Chk, and_true, true_and, v5.at ty119 rfl, build56_4 (Sl.one bv5.1).1])
        refine sat_store qk5 ty56 rfl (Nat.le_refl 7) (by simp only [V.cells, List.all_cons, List.all_nil, (Sl.one bv5.1).2, Bool.and_true]; rfl) ?_
        intro hs qs ns fs
        (try simp (maxSteps := 2000000) only [wk, wl, wx, reduceLT, reduceEqDiff, Nat.reduceBEq, reduceIte, wd, Chk, and_true, true_and])
        refine ⟨_, k2.next, bv, rfl, ?_, ?_, ?_, ?_, by omega, by omega, qs, Sl.fix bv5.1 (K := (· ≠ k2.next)) (inbv.sub fun b hb => by omega) fs, inbv.sub fun b hb => by omega, r5.fix fs (by omega) (fun b hb => by omega), F5.trans (fs.sub fun b hb => by omega)⟩
        all_goals (try simp only [wk, wl, wx, reduceLT, reduceEqDiff, Nat.reduceBEq, reduceIte])
      · (try simp (maxSteps := 2000000) only [wk, wl, wx, reduceLT, reduceEqDiff, Nat.reduceBEq, reduceIte, wd, Chk, and_true, true_and, v0.at ty119 rfl])
        refine (number_ok r0 (by omega) (fun x hx => by omega) (by omega) (by omega)).mono fun v k1 ⟨e1, r1, fk1⟩ => ?_
        subst e1
        have xk1 := fk1.next
        have r1 : Rd g k1 (· < h1.next) rb (j1R p0) := r1
        have F1 : Fix (fun b => b < h4.next ∧ b ≠ rb) h4 k1 := F0.trans (fk1.sub fun b hb => ⟨by omega, hb.2⟩)
        have v1 := vA.fix F1 ⟨by omega, by omega⟩
        (try simp (maxSteps := 2000000) only [wk, wl, wx, reduceLT, reduceEqDiff, Nat.reduceBEq, reduceIte, wd, Chk, and_true, true_and, v1.at ty119 rfl])
        refine wop_alloc ty56 ?_
        intro k2 qk2 nk2 fk2
        have xk2 := fk2.next
        have F2 : Fix (fun b => b < h4.next ∧ b ≠ rb) h4 k2 := F1.trans (fk2.sub fun b hb => by omega)
        have v2 := vA.fix F2 ⟨by omega, by omega⟩
        have r2 := r1.fix fk2 (by omega) (fun b hb => by omega)
        (try simp (maxSteps := 2000000) only [wk, wl, wx, reduceLT, reduceEqDiff, Nat.reduceBEq, reduceIte, wd, Chk, and_true, true_and, v2.at ty119 rfl])
        refine (rbytes_ok r2 (by omega) (fun x hx => by omega) (by omega) (by omega)).mono fun bv k3 ⟨bv3, r3, fk3⟩ => ?_
        have inbv := bv3.2
        have xk3 := fk3.next
        have r3 : Rd g k3 (· < h1.next) rb (j2R p0) := r3
        have F3 : Fix (fun b => b < h4.next ∧ b ≠ rb) h4 k3 := F2.trans (fk3.sub fun b hb => ⟨by omega, hb.2⟩)
        have v3 := vA.fix F3 ⟨by omega, by omega⟩
        have qk3 := qk2.fix fk3 ⟨by omega, by omega⟩
        (try simp (maxSteps := 2000000) only [wk, wl, wx, reduceLT, reduceEqDiff, Nat.reduceBEq, reduceIte, wd, Chk, and_true, true_and, v3.at ty119 rfl])
        refine (number_ok r3 (by omega) (fun x hx => by omega) (by omega) (by omega)).mono fun v k4 ⟨e4, r4, fk4⟩ => ?_
        subst e4
        have xk4 := fk4.next
        have r4 : Rd g k4 (· < h1.next) rb (j3R p0) := r4
        have F4 : Fix (fun b => b < h4.next ∧ b ≠ rb) h4 k4 := F3.trans (fk4.sub fun b hb => ⟨by omega, hb.2⟩)
        have v4 := vA.fix F4 ⟨by omega, by omega⟩
        have qk4 := qk3.fix fk4 ⟨by omega, by omega⟩
        have bv4 := bv3.keep fk4 (fun b k1 k2 => ⟨by omega, by omega⟩)
        (try simp (maxSteps := 2000000) only [wk, wl, wx, reduceLT, reduceEqDiff, Nat.reduceBEq, reduceIte, wd, Chk, and_true, true_and, v4.at ty119 rfl])
        refine (number_ok r4 (by omega) (fun x hx => by omega) (by omega) (by omega)).mono fun v k5 ⟨e5, r5, fk5⟩ => ?_
        subst e5
        have xk5 := fk5.next
        have r5 : Rd g k5 (· < h1.next) rb (j4R p0) := r5
        have F5 : Fix (fun b => b < h4.next ∧ b ≠ rb) h4 k5 := F4.trans (fk5.sub fun b hb => ⟨by omega, hb.2⟩)
        have v5 := vA.fix F5 ⟨by omega, by omega⟩
        have qk5 := qk4.fix fk5 ⟨by omega, by omega⟩
        have bv5 := bv4.keep fk5 (fun b k1 k2 => ⟨by omega, by omega⟩)
        (try simp (maxSteps := 2000000) only [wk, wl, wx, reduceLT, reduceEqDiff, Nat.reduceBEq, reduceIte, wd, Chk, and_true, true_and, v5.at ty119 rfl, build56_4 (Sl.one bv5.1).1])
        refine sat_store qk5 ty56 rfl (Nat.le_refl 7) (by simp only [V.cells, List.all_cons, List.all_nil, (Sl.one bv5.1).2, Bool.and_true]; rfl) ?_
        intro hs qs ns fs
        (try simp (maxSteps := 2000000) only [wk, wl, wx, reduceLT, reduceEqDiff, Nat.reduceBEq, reduceIte, wd, Chk, and_true, true_and])
        refine ⟨_, k1.next, bv, rfl, ?_, ?_, ?_, ?_, by omega, by omega, qs, Sl.fix bv5.1 (K := (· ≠ k1.next)) (inbv.sub fun b hb => by omega) fs, inbv.sub fun b hb => by omega, r5.fix fs (by omega) (fun b hb => by omega), F5.trans (fs.sub fun b hb => by omega)⟩
        all_goals (try simp only [wk, wl, wx, reduceLT, reduceEqDiff, Nat.reduceBEq, reduceIte])
      · (try simp (maxSteps := 2000000) only [wk, wl, wx, reduceLT, reduceEqDiff, Nat.reduceBEq, reduceIte, wd, Chk, and_true, true_and, v0.at ty119 rfl])
        refine wop_alloc ty56 ?_
        intro k1 qk1 nk1 fk1
        have xk1 := fk1.next
        have F1 : Fix (fun b => b < h4.next ∧ b ≠ rb) h4 k1 := F0.trans (fk1.sub fun b hb => by omega)
        have v1 := vA.fix F1 ⟨by omega, by omega⟩
        have r1 := r0.fix fk1 (by omega) (fun b hb => by omega)
        (try simp (maxSteps := 2000000) only [wk, wl, wx, reduceLT, reduceEqDiff, Nat.reduceBEq, reduceIte, wd, Chk, and_true, true_and, v1.at ty119 rfl])
        refine (number_ok r1 (by omega) (fun x hx => by omega) (by omega) (by omega)).mono fun v k2 ⟨e2, r2, fk2⟩ => ?_
        subst e2
        have xk2 := fk2.next
        have r2 : Rd g k2 (· < h1.next) rb (j1R p0) := r2
        have F2 : Fix (fun b => b < h4.next ∧ b ≠ rb) h4 k2 := F1.trans (fk2.sub fun b hb => ⟨by omega, hb.2⟩)
        have v2 := vA.fix F2 ⟨by omega, by omega⟩
        have qk2 := qk1.fix fk2 ⟨by omega, by omega⟩
        (try simp (maxSteps := 2000000) only [wk, wl, wx, reduceLT, reduceEqDiff, Nat.reduceBEq, reduceIte, wd, Chk, and_true, true_and, v2.at ty119 rfl])
        refine (rbytes_ok r2 (by omega) (fun x hx => by omega) (by omega) (by omega)).mono fun bv k3 ⟨bv3, r3, fk3⟩ => ?_
        have inbv := bv3.2
        have xk3 := fk3.next
        have r3 : Rd g k3 (· < h1.next) rb (j2R p0) := r3
        have F3 : Fix (fun b => b < h4.next ∧ b ≠ rb) h4 k3 := F2.trans (fk3.sub fun b hb => ⟨by omega, hb.2⟩)
        have v3 := vA.fix F3 ⟨by omega, by omega⟩
        have qk3 := qk2.fix fk3 ⟨by omega, by omega⟩
        (try simp (maxSteps := 2000000) only [wk, wl, wx, reduceLT, reduceEqDiff, Nat.reduceBEq, reduceIte, wd, Chk, and_true, true_and, v3.at ty119 rfl])
        refine (number_ok r3 (by omega) (fun x hx => by omega) (by omega) (by omega)).mono fun v k4 ⟨e4, r4, fk4⟩ => ?_
        subst e4
        have xk4 := fk4.next
        have r4 : Rd g k4 (· < h1.next) rb (j3R p0) := r4
        have F4 : Fix (fun b => b < h4.next ∧ b ≠ rb) h4 k4 := F3.trans (fk4.sub fun b hb => ⟨by omega, hb.2⟩)
        have v4 := vA.fix F4 ⟨by omega, by omega⟩
        have qk4 := qk3.fix fk4 ⟨by omega, by omega⟩
        have bv4 := bv3.keep fk4 (fun b k1 k2 => ⟨by omega, by omega⟩)
        (try simp (maxSteps := 2000000) only [wk, wl, wx, reduceLT, reduceEqDiff, Nat.reduceBEq, reduceIte, wd, Chk, and_true, true_and, v4.at ty119 rfl])
        refine (number_ok r4 (by omega) (fun x hx => by omega) (by omega) (by omega)).mono fun v k5 ⟨e5, r5, fk5⟩ => ?_
        subst e5
        have xk5 := fk5.next
        have r5 : Rd g k5 (· < h1.next) rb (j4R p0) := r5
        have F5 : Fix (fun b => b < h4.next ∧ b ≠ rb) h4 k5 := F4.trans (fk5.sub fun b hb => ⟨by omega, hb.2⟩)
        have v5 := vA.fix F5 ⟨by omega, by omega⟩
        have qk5 := qk4.fix fk5 ⟨by omega, by omega⟩
        have bv5 := bv4.keep fk5 (fun b k1 k2 => ⟨by omega, by omega⟩)
        (try simp (maxSteps := 2000000) only [wk, wl, wx, reduceLT, reduceEqDiff, Nat.reduceBEq, reduceIte, wd, Chk, and_true, true_and, v5.at ty119 rfl, build56_4 (Sl.one bv5.1).1])
        refine sat_store qk5 ty56 rfl (Nat.le_refl 7) (by simp only [V.cells, List.all_cons, List.all_nil, (Sl.one bv5.1).2, Bool.and_true]; rfl) ?_
        intro hs qs ns fs
        (try simp (maxSteps := 2000000) only [wk, wl, wx, reduceLT, reduceEqDiff, Nat.reduceBEq, reduceIte, wd, Chk, and_true, true_and])
        refine ⟨_, h4.next, bv, rfl, ?_, ?_, ?_, ?_, by omega, by omega, qs, Sl.fix bv5.1 (K := (· ≠ h4.next)) (inbv.sub fun b hb => by omega) fs, inbv.sub fun b hb => by omega, r5.fix fs (by omega) (fun b hb => by omega), F5.trans (fs.sub fun b hb => by omega)⟩
        all_goals (try simp only [wk, wl, wx, reduceLT, reduceEqDiff, Nat.reduceBEq, reduceIte])
    · rintro e fr h5 ⟨rfl, ts, q, bv, rfl, t0, t2, t4, t6, q1, q2, q5, bv5, bw, r5, F5⟩
      have x5 := F5.next
      have v5 := v4.fix F5 ⟨by omega, by omega⟩
      have b5 := b4.fix F5 ⟨by omega, by omega⟩
      have hb5 := Sl.fix hb4 (hs1.sub fun b hb => (⟨by omega, by omega⟩ : b < h4.next ∧ b ≠ rb)) F5
      have D5 : DB h5 h1.next rb vb q := ⟨v5, by omega, by omega, by omega, by omega, by omega, by omega, by omega, by omega⟩
      (try simp only [wk, wl, wx, reduceLT, reduceEqDiff, Nat.reduceBEq, reduceIte])
      ((repeat refine WC.seq ?_); refine WC.run ?_)
      (try simp only [wk, wl, wx, reduceLT, reduceEqDiff, Nat.reduceBEq, reduceIte, t4, t6, v5.at ty119 rfl, w_makeFunc])
      refine (each_ok (rd := fun x => x.1) (step := adv expR) (Inv := fun s h => ∃ yy, DI g h5 h1.next p0.xs.length rb q (fun zz => [i64 (numR p0).1, bv, i64 (numR (j2R p0)).1, i64 (numR (j3R p0)).1, zz, .nils, .nils]) 137 2 (fun L => L.flatMap expV) s h yy) (n := (numR (j4R p0)).1) (s := ((numR (j4R p0)).2, [])) (k := b.length)
        ((number_ok r5 (by omega) (fun x hx => by omega) (by omega) (by omega)).mono fun v h' ⟨e, r, f⟩ => ⟨e, .nils, ⟨r, q5.fix f ⟨by omega, by omega⟩, .nil, In.nils, f.sub fun b hb => ⟨hb.1, hb.2.1⟩, by have := numR_le (j4R p0); show (numR (j4R p0)).2.xs.length ≤ _; omega, Nat.zero_le _, fun _ => by have := numR_le (j4R p0); show 0 + (numR (j4R p0)).2.xs.length ≤ _; omega⟩⟩)
        (fun s h i => DI.bad i) (fun s h i hb => rexp_ok D5 i (by omega) hb) (fun s _ => dec_of expR_bad s) (by have := numR_le (j4R p0); show (numR (j4R p0)).2.xs.length < _; omega) (numR_lt _)).mono fun _ h6 ⟨sv, i6⟩ => ?_
      have i6 : DI g h5 h1.next p0.xs.length rb q (fun zz => [i64 (numR p0).1, bv, i64 (numR (j2R p0)).1, i64 (numR (j3R p0)).1, zz, .nils, .nils]) 137 2 (fun L => L.flatMap expV) (expsR b.length p0) h6 sv := i6
      have r6 := i6.rd
      have q6 : Has h6 q [i64 (numR p0).1, bv, i64 (numR (j2R p0)).1, i64 (numR (j3R p0)).1, sv, .nils, .nils] := i6.co
      have x6 := i6.fx.next
      have l6 : (expsR b.length p0).1.xs.length ≤ p0.xs.length := i6.xs
      have v6 := v5.fix i6.fx ⟨by omega, by omega, by omega⟩
      have D6 : DB h6 h1.next rb vb q := ⟨v6, by omega, by omega, by omega, by omega, by omega, by omega, by omega, by omega⟩
      (try simp only [wk, wl, wx, reduceLT, reduceEqDiff, Nat.reduceBEq, reduceIte])
      ((repeat refine WC.seq ?_); refine WC.run ?_)
      (try simp only [wk, wl, wx, reduceLT, reduceEqDiff, Nat.reduceBEq, reduceIte, t4, t6, v6.at ty119 rfl, w_makeFunc])
      refine (each_ok (rd := fun x => x.1) (step := adv slotR) (Inv := fun s h => ∃ yy, DI g h6 h1.next p0.xs.length rb q (fun zz => [i64 (numR p0).1, bv, i64 (numR (j2R p0)).1, i64 (numR (j3R p0)).1, sv, zz, .nils]) 138 3 (fun L => L.flatMap slotV) s h yy) (n := (numR (expsR b.length p0).1).1) (s := ((numR (expsR b.length p0).1).2, [])) (k := b.length)
        ((number_ok r6 (by omega) (fun x hx => by omega) (by omega) (by omega)).mono fun v h' ⟨e, r, f⟩ => ⟨e, .nils, ⟨r, q6.fix f ⟨by omega, by omega⟩, .nil, In.nils, f.sub fun b hb => ⟨hb.1, hb.2.1⟩, by have := numR_le (expsR b.length p0).1; show (numR (expsR b.length p0).1).2.xs.length ≤ _; omega, Nat.zero_le _, fun _ => by have := numR_le (expsR b.length p0).1; show 0 + (numR (expsR b.length p0).1).2.xs.length ≤ _; omega⟩⟩)
        (fun s h i => DI.bad i) (fun s h i hb => rslot_ok D6 i (by omega) hb) (fun s _ => dec_of slotR_bad s) (by have := numR_le (expsR b.length p0).1; show (numR (expsR b.length p0).1).2.xs.length < _; omega) (numR_lt _)).mono fun _ h7 ⟨rv, i7⟩ => ?_
      have i7 : DI g h6 h1.next p0.xs.length rb q (fun zz => [i64 (numR p0).1, bv, i64 (numR (j2R p0)).1, i64 (numR (j3R p0)).1, sv, zz, .nils]) 138 3 (fun L => L.flatMap slotV) (slotsR b.length p0) h7 rv := i7
      have r7 := i7.rd
      have q7 : Has h7 q [i64 (numR p0).1, bv, i64 (numR (j2R p0)).1, i64 (numR (j3R p0)).1, sv, rv, .nils] := i7.co
      have x7 := i7.fx.next
      have l7 : (slotsR b.length p0).1.xs.length ≤ p0.xs.length := i7.xs
      have v7 := v6.fix i7.fx ⟨by omega, by omega, by omega⟩
      have D7 : DB h7 h1.next rb vb q := ⟨v7, by omega, by omega, by omega, by omega, by omega, by omega, by omega, by omega⟩
      (try simp only [wk, wl, wx, reduceLT, reduceEqDiff, Nat.reduceBEq, reduceIte])
      ((repeat refine WC.seq ?_); refine WC.run ?_)
      (try simp only [wk, wl, wx, reduceLT, reduceEqDiff, Nat.reduceBEq, reduceIte, t4, t6, v7.at ty119 rfl, w_makeFunc])
      refine (each_ok (rd := fun x => x.1) (step := adv bytR) (Inv := fun s h => ∃ yy, DI g h7 h1.next p0.xs.length rb q (fun zz => [i64 (numR p0).1, bv, i64 (numR (j2R p0)).1, i64 (numR (j3R p0)).1, sv, rv, zz]) 9 1 (fun L => L.map V.str) s h yy) (n := (numR (slotsR b.length p0).1).1) (s := ((numR (slotsR b.length p0).1).2, [])) (k := b.length)
        ((number_ok r7 (by omega) (fun x hx => by omega) (by omega) (by omega)).mono fun v h' ⟨e, r, f⟩ => ⟨e, .nils, ⟨r, q7.fix f ⟨by omega, by omega⟩, .nil, In.nils, f.sub fun b hb => ⟨hb.1, hb.2.1⟩, by have := numR_le (slotsR b.length p0).1; show (numR (slotsR b.length p0).1).2.xs.length ≤ _; omega, Nat.zero_le _, fun _ => by have := numR_le (slotsR b.length p0).1; show 0 + (numR (slotsR b.length p0).1).2.xs.length ≤ _; omega⟩⟩)
        (fun s h i => DI.bad i) (fun s h i hb => ineed_ok D7 i (by omega) hb) (fun s _ => dec_of bytR_bad s) (by have := numR_le (slotsR b.length p0).1; show (numR (slotsR b.length p0).1).2.xs.length < _; omega) (numR_lt _)).mono fun _ h8 ⟨nv, i8⟩ => ?_
      have i8 : DI g h7 h1.next p0.xs.length rb q (fun zz => [i64 (numR p0).1, bv, i64 (numR (j2R p0)).1, i64 (numR (j3R p0)).1, sv, rv, zz]) 9 1 (fun L => L.map V.str) (ineedsR b.length p0) h8 nv := i8
      have r8 := i8.rd
      have q8 : Has h8 q [i64 (numR p0).1, bv, i64 (numR (j2R p0)).1, i64 (numR (j3R p0)).1, sv, rv, nv] := i8.co
      have x8 := i8.fx.next
      have l8 : (ineedsR b.length p0).1.xs.length ≤ p0.xs.length := i8.xs
      have v8 := v7.fix i8.fx ⟨by omega, by omega, by omega⟩
      have D8 : DB h8 h1.next rb vb q := ⟨v8, by omega, by omega, by omega, by omega, by omega, by omega, by omega, by omega⟩
      have qz : Has h8 q ((⟨bv, sv, rv, nv⟩ : Ic).cells (imgR b.length p0).1) := q8
      have G7 : Fix (fun b => b < h7.next ∧ b ≠ rb ∧ b ≠ q) h7 h8 := i8.fx
      have G6 : Fix (fun b => b < h6.next ∧ b ≠ rb ∧ b ≠ q) h6 h8 := i7.fx.trans (G7.sub fun b hb => ⟨by omega, hb.2⟩)
      have G5 : Fix (fun b => b < h5.next ∧ b ≠ rb ∧ b ≠ q) h5 h8 := i6.fx.trans (G6.sub fun b hb => ⟨by omega, hb.2⟩)
      have Gh : Fix (· < h.next) h h8 := ⟨by omega, fun c hc => by rw [G5.same c ⟨by omega, by omega, by omega⟩, F5.same c ⟨by omega, by omega⟩, F4.same c (by omega), F2.same c (by omega), f1.same c hc]⟩
      have bz := b5.fix G5 ⟨by omega, by omega, by omega⟩
      have hbz := Sl.fix hb5 (hs1.sub fun b hb => (⟨by omega, by omega, by omega⟩ : b < h5.next ∧ b ≠ rb ∧ b ≠ q)) G5
      have obz : Im g h8 (fun b => h4.next ≤ b ∧ b < h8.next) (⟨bv, sv, rv, nv⟩ : Ic) (imgR b.length p0).1 :=
        ⟨Sl.fix bv5 (bw.sub fun b hb => (⟨by omega, by omega, by omega⟩ : b < h5.next ∧ b ≠ rb ∧ b ≠ q)) G5,
          (i6.bu.fix (i6.nw.sub fun b hb => (⟨by omega, by omega, by omega⟩ : b < h6.next ∧ b ≠ rb ∧ b ≠ q)) G6).sl, (i7.bu.fix (i7.nw.sub fun b hb => (⟨by omega, by omega, by omega⟩ : b < h7.next ∧ b ≠ rb ∧ b ≠ q)) G7).sl, i8.bu.sl,
          bw.sub fun b hb => by omega, i6.nw.sub fun b hb => by omega, i7.nw.sub fun b hb => by omega, i8.nw.sub fun b hb => by omega⟩
      have fit : FitsI (imgR b.length p0).1 := ⟨by have := bytR_out (j1R p0); show (bytR (j1R p0)).1.length < _; omega, by have := i6.ln; show (expsR b.length p0).2.length < _; omega, by have := i7.ln; show (slotsR b.length p0).2.length < _; omega, by have := i8.ln; show (ineedsR b.length p0).2.length < _; omega⟩
      have lz : loadP (E g) h8 56 (.ptr q 0) = some (.agg ((⟨bv, sv, rv, nv⟩ : Ic).cells (imgR b.length p0).1)) := qz.agg ty56 rfl (Nat.le_refl 7)
      (try simp only [wk, wl, wx, reduceLT, reduceEqDiff, Nat.reduceBEq, reduceIte])
      ((repeat refine WC.seq ?_); refine WC.run ?_)
      (try simp only [wk, wl, wx, reduceLT, reduceEqDiff, Nat.reduceBEq, reduceIte, t6, lz])
      refine (write_ok hg (obz.up fun b hb => hb.2) fit).mono fun v he ⟨Ge, ce1, ce2⟩ => ?_
      have xe := Ge.next
      have re := r8.fix Ge (by omega) (fun b hb => by omega)
      have ve := v8.fix Ge (by omega)
      have be := bz.fix Ge (by omega)
      have hbe := Sl.fix hbz (hs1.sub fun b hb => by omega) Ge
      have obe := obz.fix Ge (fun b hb => hb.2)
      have le : loadP (E g) he 56 (.ptr q 0) = some (.agg ((⟨bv, sv, rv, nv⟩ : Ic).cells (imgR b.length p0).1)) := (qz.fix Ge (by omega)).agg ty56 rfl (Nat.le_refl 7)
      have Fe : Kept h he := Gh.trans (Ge.sub fun b hb => by omega)
      obtain ⟨bs, re1, re2, re3⟩ := re
      have hbad : (ineedsR b.length p0).1.bad = (imgR b.length p0).2 := rfl
      rw [hbad] at re1
      have hd (hc : (imgR b.length p0).2 = true ∨ rightB (imgR b.length p0).1 = false ∨ imgB (imgR b.length p0).1 ≠ b) : readP b = (zeroI, 12) := by
        unfold readP; rw [if_neg (not_not_intro hoe), hp0, if_pos hc]
      cases hck : rightB (imgR b.length p0).1 with
      | false =>
        have hv := ce1 hck
        subst hv
        (try simp only [wk, wl, wx, reduceLT, reduceEqDiff, Nat.reduceBEq, reduceIte])
        ((repeat refine WC.seq ?_); refine WC.run ?_)
        cases hbd : (imgR b.length p0).2 with
        | true =>
          rw [hbd] at re1
          (try simp only [wk, wl, wx, reduceLT, reduceEqDiff, Nat.reduceBEq, reduceIte, t4, t0, ve.at ty119 rfl, fa125_1, Nat.zero_add, re1.at ty4 rfl, un])
          (repeat refine WC.seq ?_)
          refine WC.cond (b := true) (by (try simp only [wk, wl, wx, reduceLT, reduceEqDiff, Nat.reduceBEq, reduceIte]); (try simp); (try omega)) ?_
          ((repeat refine WC.seq ?_); refine WC.run ?_)
          (try simp only [wk, wl, wx, reduceLT, reduceEqDiff, Nat.reduceBEq, reduceIte, t2, build56_0])
          refine sat_store be ty56 rfl (Nat.le_refl 7) rfl ?_
          intro hf bf nf ff
          have lf : loadP (E g) hf 56 (.ptr h.next 0) = some (.agg [i64 0, .nils, i64 0, i64 0, .nils, .nils, .nils]) := bf.agg ty56 rfl (Nat.le_refl 7)
          (try simp only [wk, wl, wx, reduceLT, reduceEqDiff, Nat.reduceBEq, reduceIte])
          refine WC.ret ?_
          (try simp only [wk, wl, wx, reduceLT, reduceEqDiff, Nat.reduceBEq, reduceIte, t2, lf])
          rw [hd (.inl hbd)]
          exact ⟨⟨by omega, fun c hc => by rw [ff.same c (by omega), Fe.same c hc]⟩, ⟨.nils, .nils, .nils, .nils⟩, rfl, zeroI_im⟩
        | false =>
          rw [hbd] at re1
          have hne : ((14 : Int) != (0 : Int)) = true := rfl
          (try simp only [wk, wl, wx, reduceLT, reduceEqDiff, Nat.reduceBEq, reduceIte, t4, t0, ve.at ty119 rfl, fa125_1, Nat.zero_add, re1.at ty4 rfl, un, i64, hne])
          (repeat refine WC.seq ?_)
          refine WC.cond (b := true) (by (try simp only [wk, wl, wx, reduceLT, reduceEqDiff, Nat.reduceBEq, reduceIte]); (try simp); (try omega)) ?_
          ((repeat refine WC.seq ?_); refine WC.run ?_)
          (try simp only [wk, wl, wx, reduceLT, reduceEqDiff, Nat.reduceBEq, reduceIte, t2, build56_0])
          refine sat_store be ty56 rfl (Nat.le_refl 7) rfl ?_
          intro hf bf nf ff
          have lf : loadP (E g) hf 56 (.ptr h.next 0) = some (.agg [i64 0, .nils, i64 0, i64 0, .nils, .nils, .nils]) := bf.agg ty56 rfl (Nat.le_refl 7)
          (try simp only [wk, wl, wx, reduceLT, reduceEqDiff, Nat.reduceBEq, reduceIte])
          refine WC.ret ?_
          (try simp only [wk, wl, wx, reduceLT, reduceEqDiff, Nat.reduceBEq, reduceIte, t2, lf])
          rw [hd (.inr (.inl hck))]
          exact ⟨⟨by omega, fun c hc => by rw [ff.same c (by omega), Fe.same c hc]⟩, ⟨.nils, .nils, .nils, .nils⟩, rfl, zeroI_im⟩
      | true =>
        obtain ⟨sa, hv, sb, sc⟩ := ce2 hck
        subst hv
        (try simp only [wk, wl, wx, reduceLT, reduceEqDiff, Nat.reduceBEq, reduceIte])
        ((repeat refine WC.seq ?_); refine WC.run ?_)
        cases hbd : (imgR b.length p0).2 with
        | true =>
          rw [hbd] at re1
          (try simp only [wk, wl, wx, reduceLT, reduceEqDiff, Nat.reduceBEq, reduceIte, t4, t0, ve.at ty119 rfl, fa125_1, Nat.zero_add, re1.at ty4 rfl, un])
          (repeat refine WC.seq ?_)
          refine WC.cond (b := true) (by (try simp only [wk, wl, wx, reduceLT, reduceEqDiff, Nat.reduceBEq, reduceIte]); (try simp); (try omega)) ?_
          ((repeat refine WC.seq ?_); refine WC.run ?_)
          (try simp only [wk, wl, wx, reduceLT, reduceEqDiff, Nat.reduceBEq, reduceIte, t2, build56_0])
          refine sat_store be ty56 rfl (Nat.le_refl 7) rfl ?_
          intro hf bf nf ff
          have lf : loadP (E g) hf 56 (.ptr h.next 0) = some (.agg [i64 0, .nils, i64 0, i64 0, .nils, .nils, .nils]) := bf.agg ty56 rfl (Nat.le_refl 7)
          (try simp only [wk, wl, wx, reduceLT, reduceEqDiff, Nat.reduceBEq, reduceIte])
          refine WC.ret ?_
          (try simp only [wk, wl, wx, reduceLT, reduceEqDiff, Nat.reduceBEq, reduceIte, t2, lf])
          rw [hd (.inl hbd)]
          exact ⟨⟨by omega, fun c hc => by rw [ff.same c (by omega), Fe.same c hc]⟩, ⟨.nils, .nils, .nils, .nils⟩, rfl, zeroI_im⟩
        | false =>
          rw [hbd] at re1
          have hne : ((0 : Int) != (0 : Int)) = false := rfl
          (try simp only [wk, wl, wx, reduceLT, reduceEqDiff, Nat.reduceBEq, reduceIte, t4, t0, ve.at ty119 rfl, fa125_1, Nat.zero_add, re1.at ty4 rfl, un, i64, hne])
          refine (equal_ok sb.sl hbe (Nat.le_trans (imgB_len (smallI_of hck)) (by decide)) (by omega)).mono fun v h' ⟨e', e''⟩ => ?_
          subst e' e''
          by_cases heq : imgB (imgR b.length p0).1 = b
          · (try simp only [wk, wl, wx, reduceLT, reduceEqDiff, Nat.reduceBEq, reduceIte, decide_eq_true heq, Bool.not_true])
            (repeat refine WC.seq ?_)
            refine WC.cond (b := false) (by (try simp only [wk, wl, wx, reduceLT, reduceEqDiff, Nat.reduceBEq, reduceIte]); (try simp); (try omega)) (WC.skip ?_)
            (try simp only [wk, wl, wx, reduceLT, reduceEqDiff, Nat.reduceBEq, reduceIte])
            ((repeat refine WC.seq ?_); refine WC.run ?_)
            (try simp only [wk, wl, wx, reduceLT, reduceEqDiff, Nat.reduceBEq, reduceIte, t6, t2, le])
            refine sat_store be ty56 rfl (Nat.le_refl 7) (by simp only [V.cells, Ic.cells, List.all_cons, List.all_nil, (Sl.one obe.bytes).2, (Sl.one obe.exps).2, (Sl.one obe.slots).2, (Sl.one obe.needs).2, Bool.and_true]; rfl) ?_
            intro hf bf nf ff
            have lf : loadP (E g) hf 56 (.ptr h.next 0) = some (.agg ((⟨bv, sv, rv, nv⟩ : Ic).cells (imgR b.length p0).1)) := bf.agg ty56 rfl (Nat.le_refl 7)
            (try simp only [wk, wl, wx, reduceLT, reduceEqDiff, Nat.reduceBEq, reduceIte])
            refine WC.ret ?_
            (try simp only [wk, wl, wx, reduceLT, reduceEqDiff, Nat.reduceBEq, reduceIte, t2, lf])
            have hdk : readP b = ((imgR b.length p0).1, 0) := by
              unfold readP
              rw [if_neg (not_not_intro hoe), hp0, if_neg (by rintro (q | q | q); rw [hbd] at q; cases q; rw [hck] at q; cases q; exact q heq)]
            rw [hdk]
            exact ⟨⟨by omega, fun c hc => by rw [ff.same c (by omega), Fe.same c hc]⟩, _, rfl, (obe.fix (K' := (· ≠ h.next)) ff fun b hb => by omega).up fun b hb => by omega⟩
          · (try simp only [wk, wl, wx, reduceLT, reduceEqDiff, Nat.reduceBEq, reduceIte, decide_eq_false heq, Bool.not_false])
            (repeat refine WC.seq ?_)
            refine WC.cond (b := true) (by (try simp only [wk, wl, wx, reduceLT, reduceEqDiff, Nat.reduceBEq, reduceIte]); (try simp); (try omega)) ?_
            ((repeat refine WC.seq ?_); refine WC.run ?_)
            (try simp only [wk, wl, wx, reduceLT, reduceEqDiff, Nat.reduceBEq, reduceIte, t2, build56_0])
            refine sat_store be ty56 rfl (Nat.le_refl 7) rfl ?_
            intro hf bf nf ff
            have lf : loadP (E g) hf 56 (.ptr h.next 0) = some (.agg [i64 0, .nils, i64 0, i64 0, .nils, .nils, .nils]) := bf.agg ty56 rfl (Nat.le_refl 7)
            (try simp only [wk, wl, wx, reduceLT, reduceEqDiff, Nat.reduceBEq, reduceIte])
            refine WC.ret ?_
            (try simp only [wk, wl, wx, reduceLT, reduceEqDiff, Nat.reduceBEq, reduceIte, t2, lf])
            rw [hd (.inr (.inr heq))]
            exact ⟨⟨by omega, fun c hc => by rw [ff.same c (by omega), Fe.same c hc]⟩, ⟨.nils, .nils, .nils, .nils⟩, rfl, zeroI_im⟩
end Go.Proofs.OP
