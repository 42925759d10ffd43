/- Walks: Decode. Printed by gen27.py. -/
import Derived.Test.YtloblhhnlaaajaaGreatDoorW15
import Derived.Test.YtloblhhnlaaajaaGreatDoorW21
set_option linter.unusedVariables false
set_option linter.unusedSimpArgs false
set_option linter.defProp false
set_option linter.unusedSimpArgs false
namespace Go.Proofs.OP
open Go Go.Ev
open Go.Proofs
open Nat (reduceLT reduceEqDiff)
variable {g : T (List V)}

def listR {α : Type} (f : RdS → α × RdS) (k : Nat) (s : RdS) : RdS × List α := eachR (fun x => x.1) (adv f) k (numR s).1 ((numR s).2, [])
theorem NewBs.keep {h h1 h2 : H} {K : Nat → Prop} {v : V} {xs : List UInt8} (a : NewBs g h h1 v xs) (f : Fix K h1 h2) (hK : ∀ b, h.next ≤ b → b < h1.next → K b) : NewBs g h h2 v xs :=
  ⟨Sl.fix a.1 (a.2.sub fun b hb => hK b hb.1 hb.2) f, a.2.sub fun b hb => ⟨hb.1, by have := f.next; omega⟩⟩
theorem wrap_lt (n : Int) : IntKind.i64.wrap n < 9223372036854775808 := by
  unfold IntKind.wrap
  simp only [IntKind.bits, IntKind.signed, Bool.true_and]
  split <;> rename_i h <;> simp at h <;> omega
theorem numR_lt (s : RdS) : (numR s).1 < 2 ^ 63 := by
  unfold numR; split
  · show (0 : Int) < _; omega
  · have := wrap_lt ((leN (s.xs.take 8) : Nat) : Int)
    show IntKind.i64.wrap _ < _; omega
theorem dec_of {α : Type} {f : RdS → α × RdS} (hf : ∀ {s : RdS}, (f s).2.bad = false → s.bad = false ∧ (f s).2.xs.length < s.xs.length) (s : RdS × List α) : (adv f s).1.bad = true ∨ (adv f s).1.xs.length < s.1.xs.length := by
  cases h : (f s.1).2.bad with
  | true => exact .inl h
  | false => exact .inr (hf h).2
theorem inner_len (b : List UInt8) : (inner b).length ≤ b.length := by unfold inner; simp; omega


end Go.Proofs.OP

set_option linter.unusedSimpArgs false
namespace Go.Proofs.OP
open Go Go.Ev
open Go.Proofs
open Nat (reduceLT reduceEqDiff)
variable {g : T (List V)}

@[irreducible] def takR (s : RdS) (n : Int) : List UInt8 × RdS := if s.bad = true ∨ n < 0 ∨ (s.xs.length : Int) < n then ([], ⟨s.xs, true⟩) else (s.xs.take n.toNat, ⟨s.xs.drop n.toNat, s.bad⟩)
@[irreducible] def rnumR (s : RdS) : Int × RdS := (I64 (leN (takR s 8).1), (takR s 8).2)
@[irreducible] def rtxtR (s : RdS) : List UInt8 × RdS := takR (rnumR s).2 (rnumR s).1
def cntB (s : RdS) : Bool := (rnumR s).2.bad || (decide ((rnumR s).1 < 0) || decide (((rnumR s).2.xs.length : Int) < (rnumR s).1))
@[irreducible] def cntR (s : RdS) : Int × RdS := (if cntB s = true then 0 else (rnumR s).1, ⟨(rnumR s).2.xs, cntB s⟩)
theorem takR_le (s : RdS) (n : Int) : (takR s n).2.xs.length ≤ s.xs.length := by
  unfold takR; split <;> simp
theorem takR_out (s : RdS) (n : Int) : (takR s n).1.length ≤ s.xs.length ∧ (0 ≤ n → ((takR s n).1.length : Int) ≤ n) := by
  unfold takR; split
  · simp
  · simp; omega
theorem rnumR_le (s : RdS) : (rnumR s).2.xs.length ≤ s.xs.length := by unfold rnumR; exact takR_le _ _
theorem rtxtR_le (s : RdS) : (rtxtR s).2.xs.length ≤ s.xs.length := by
  unfold rtxtR; exact Nat.le_trans (takR_le _ _) (rnumR_le s)
theorem rtxtR_out (s : RdS) : (rtxtR s).1.length ≤ s.xs.length := by
  unfold rtxtR; exact Nat.le_trans (takR_out _ _).1 (rnumR_le s)
theorem cntR_le (s : RdS) : (cntR s).2.xs.length ≤ s.xs.length := by unfold cntR; exact rnumR_le s

set_option maxRecDepth 100000 in
set_option maxHeartbeats 4000000 in
theorem take_ok {h : H} {K : Nat → Prop} {rb : Nat} {s : RdS} {n : Int} (r : Rd g h K rb s) (hK : ¬ K rb) (hx : s.xs.length < 2 ^ 39) :
    WF (E g) 103 [.ptr rb 0, .int .i64 n] h fun v h' => (Bs g h' v (takR s n).1 ∧ In K v) ∧ Rd g h' K rb (takR s n).2 ∧ h'.next = h.next ∧ Fix (· ≠ rb) h h' := by
  obtain ⟨bs, a1, a2, a3⟩ := r
  have hKb : ∀ b, K b → b ≠ rb := fun b hb e => hK (e ▸ hb)
  refine WF.enter fn103 rfl ?_
  ((repeat refine WC.seq ?_); refine WC.run ?_)
  (try simp only [wk, wl, wx, reduceLT, reduceEqDiff, Nat.reduceBEq, reduceIte])
  ((repeat refine WC.seq ?_); refine WC.run ?_)
  have short (hs : s.bad = true ∨ n < 0 ∨ (s.xs.length : Int) < n) : ∀ h2, Has h2 rb (over [bs, V.bool s.bad] 1 [V.bool true]) → h2.next = h.next → Fix (· ≠ rb) h h2 → (Bs g h2 .nils (takR s n).1 ∧ In K .nils) ∧ Rd g h2 K rb (takR s n).2 ∧ h2.next = h.next ∧ Fix (· ≠ rb) h h2 := by
    intro h2 b2 n2 f2
    unfold takR
    rw [if_pos hs]
    exact ⟨⟨Sl.nil, In.nils⟩, ⟨bs, b2, Sl.fix a2 (a3.sub hKb) f2, a3⟩, n2, f2⟩
  rcases Bool.eq_false_or_eq_true (s.bad) with k1 | k1
  · (try simp only [wk, wl, wx, reduceLT, reduceEqDiff, Nat.reduceBEq, reduceIte, un, fa131_0, fa131_1, Nat.zero_add, a1.at ty4 rfl, a1.at ty22 rfl, Bs.len a2, k1])
    (repeat refine WC.seq ?_)
    refine WC.cond (b := true) (by (try simp only [wk, wl, wx, reduceLT, reduceEqDiff, Nat.reduceBEq, reduceIte]); (try simp); (try omega)) ?_
    ((repeat refine WC.seq ?_); refine WC.run ?_)
    (try simp only [wk, wl, wx, reduceLT, reduceEqDiff, Nat.reduceBEq, reduceIte, fa131_1, Nat.zero_add])
    refine sat_store a1 ty4 rfl (Nat.le_refl 2) rfl ?_
    intro h2 b2 n2 f2
    (try simp only [wk, wl, wx, reduceLT, reduceEqDiff, Nat.reduceBEq, reduceIte])
    ((repeat refine WC.seq ?_); refine WC.run ?_)
    (try simp only [wk, wl, wx, reduceLT, reduceEqDiff, Nat.reduceBEq, reduceIte])
    refine WC.ret ?_
    (try simp only [wk, wl, wx, reduceLT, reduceEqDiff, Nat.reduceBEq, reduceIte])
    exact short (by simp [k1]) h2 b2 n2 f2
  rcases Decidable.em (n < 0) with k2 | k2
  · (try simp only [wk, wl, wx, reduceLT, reduceEqDiff, Nat.reduceBEq, reduceIte, un, fa131_0, fa131_1, Nat.zero_add, a1.at ty4 rfl, a1.at ty22 rfl, Bs.len a2, k1, decide_eq_true k2])
    (repeat refine WC.seq ?_)
    refine WC.cond (b := true) (by (try simp only [wk, wl, wx, reduceLT, reduceEqDiff, Nat.reduceBEq, reduceIte]); (try simp); (try omega)) ?_
    ((repeat refine WC.seq ?_); refine WC.run ?_)
    (try simp only [wk, wl, wx, reduceLT, reduceEqDiff, Nat.reduceBEq, reduceIte, fa131_1, Nat.zero_add])
    refine sat_store a1 ty4 rfl (Nat.le_refl 2) rfl ?_
    intro h2 b2 n2 f2
    (try simp only [wk, wl, wx, reduceLT, reduceEqDiff, Nat.reduceBEq, reduceIte])
    ((repeat refine WC.seq ?_); refine WC.run ?_)
    (try simp only [wk, wl, wx, reduceLT, reduceEqDiff, Nat.reduceBEq, reduceIte])
    refine WC.ret ?_
    (try simp only [wk, wl, wx, reduceLT, reduceEqDiff, Nat.reduceBEq, reduceIte])
    exact short (by simp [k1, k2]) h2 b2 n2 f2
  rcases Decidable.em ((s.xs.length : Int) < n) with k3 | k3
  · (try simp only [wk, wl, wx, reduceLT, reduceEqDiff, Nat.reduceBEq, reduceIte, un, fa131_0, fa131_1, Nat.zero_add, a1.at ty4 rfl, a1.at ty22 rfl, Bs.len a2, k1, decide_eq_false k2, decide_eq_true k3])
    (repeat refine WC.seq ?_)
    refine WC.cond (b := true) (by (try simp only [wk, wl, wx, reduceLT, reduceEqDiff, Nat.reduceBEq, reduceIte]); (try simp); (try omega)) ?_
    ((repeat refine WC.seq ?_); refine WC.run ?_)
    (try simp only [wk, wl, wx, reduceLT, reduceEqDiff, Nat.reduceBEq, reduceIte, fa131_1, Nat.zero_add])
    refine sat_store a1 ty4 rfl (Nat.le_refl 2) rfl ?_
    intro h2 b2 n2 f2
    (try simp only [wk, wl, wx, reduceLT, reduceEqDiff, Nat.reduceBEq, reduceIte])
    ((repeat refine WC.seq ?_); refine WC.run ?_)
    (try simp only [wk, wl, wx, reduceLT, reduceEqDiff, Nat.reduceBEq, reduceIte])
    refine WC.ret ?_
    (try simp only [wk, wl, wx, reduceLT, reduceEqDiff, Nat.reduceBEq, reduceIte])
    exact short (by simp [k1, k2, k3]) h2 b2 n2 f2
  (try simp only [wk, wl, wx, reduceLT, reduceEqDiff, Nat.reduceBEq, reduceIte, un, fa131_0, fa131_1, Nat.zero_add, a1.at ty4 rfl, a1.at ty22 rfl, Bs.len a2, k1, decide_eq_false k2, decide_eq_false k3])
  (repeat refine WC.seq ?_)
  refine WC.cond (b := false) (by (try simp only [wk, wl, wx, reduceLT, reduceEqDiff, Nat.reduceBEq, reduceIte]); (try simp); (try omega)) (WC.skip ?_)
  (try simp only [wk, wl, wx, reduceLT, reduceEqDiff, Nat.reduceBEq, reduceIte])
  obtain ⟨k, rfl⟩ : ∃ k : Nat, n = (k : Int) := ⟨n.toNat, by omega⟩
  have hk : k ≤ s.xs.length := by omega
  have hbyt : takR s (k : Int) = (s.xs.take k, ⟨s.xs.drop k, s.bad⟩) := by unfold takR; rw [if_neg (by simp [k1]; omega)]; simp
  ((repeat refine WC.seq ?_); refine WC.run ?_)
  obtain ⟨s', q1, q2, q3⟩ := Bs.upto a2 hk
  (try simp only [wk, wl, wx, reduceLT, reduceEqDiff, Nat.reduceBEq, reduceIte, fa131_0, Nat.zero_add, a1.at ty22 rfl, q1])
  ((repeat refine WC.seq ?_); refine WC.run ?_)
  obtain ⟨s3, p1, p2, p3⟩ := Bs.from a2 hk
  (try simp only [wk, wl, wx, reduceLT, reduceEqDiff, Nat.reduceBEq, reduceIte, fa131_0, Nat.zero_add, a1.at ty22 rfl, p1])
  refine sat_store a1 ty22 (by rw [Sl.one p2 |>.1]; rfl) (by simp) (by rw [Sl.one p2 |>.1]; simp [Sl.one p2 |>.2]) ?_
  intro h3 b3 n3 f3
  rw [Sl.one p2 |>.1] at b3
  (try simp only [wk, wl, wx, reduceLT, reduceEqDiff, Nat.reduceBEq, reduceIte])
  ((repeat refine WC.seq ?_); refine WC.run ?_)
  (try simp only [wk, wl, wx, reduceLT, reduceEqDiff, Nat.reduceBEq, reduceIte])
  refine WC.ret ?_
  (try simp only [wk, wl, wx, reduceLT, reduceEqDiff, Nat.reduceBEq, reduceIte])
  rw [hbyt]
  exact ⟨⟨Sl.fix q2 ((q3 _ a3).sub hKb) f3, q3 _ a3⟩, ⟨s3, b3, Sl.fix p2 ((p3 _ a3).sub hKb) f3, p3 _ a3⟩, n3, f3⟩
theorem rnum_ok {h : H} {K : Nat → Prop} {rb : Nat} {s : RdS} (r : Rd g h K rb s) (hK : ¬ K rb) (hx : s.xs.length < 2 ^ 39) :
    WF (E g) 68 [.ptr rb 0] h fun v h' => v = i64 (rnumR s).1 ∧ Rd g h' K rb (rnumR s).2 ∧ h'.next = h.next ∧ Fix (· ≠ rb) h h' := by
  refine WF.enter fn68 rfl ?_
  ((repeat refine WC.seq ?_); refine WC.run ?_)
  (try simp only [wk, wl, wx, reduceLT, reduceEqDiff, Nat.reduceBEq, reduceIte])
  ((repeat refine WC.seq ?_); refine WC.run ?_)
  (try simp only [wk, wl, wx, reduceLT, reduceEqDiff, Nat.reduceBEq, reduceIte])
  refine (take_ok (n := 8) r hK hx).mono fun v h1 ⟨⟨t1, t2⟩, r1, n1, f1⟩ => ?_
  (try simp only [wk, wl, wx, reduceLT, reduceEqDiff, Nat.reduceBEq, reduceIte])
  refine (rget_ok t1 (by have := (takR_out s 8).2 (by decide); omega)).mono fun v h2 ⟨e1, e2⟩ => ?_
  subst e1 e2
  (try simp only [wk, wl, wx, reduceLT, reduceEqDiff, Nat.reduceBEq, reduceIte])
  refine WC.ret ?_
  (try simp only [wk, wl, wx, reduceLT, reduceEqDiff, Nat.reduceBEq, reduceIte])
  unfold rnumR
  exact ⟨rfl, r1, n1, f1⟩
theorem rtxt_ok {h : H} {K : Nat → Prop} {rb : Nat} {s : RdS} (r : Rd g h K rb s) (hK : ¬ K rb) (hx : s.xs.length < 2 ^ 39) :
    WF (E g) 66 [.ptr rb 0] h fun v h' => v = .str (rtxtR s).1 ∧ Rd g h' K rb (rtxtR s).2 ∧ h'.next = h.next ∧ Fix (· ≠ rb) h h' := by
  have hle := rnumR_le s
  refine WF.enter fn66 rfl ?_
  ((repeat refine WC.seq ?_); refine WC.run ?_)
  (try simp only [wk, wl, wx, reduceLT, reduceEqDiff, Nat.reduceBEq, reduceIte])
  ((repeat refine WC.seq ?_); refine WC.run ?_)
  (try simp only [wk, wl, wx, reduceLT, reduceEqDiff, Nat.reduceBEq, reduceIte])
  refine (rnum_ok r hK hx).mono fun v h1 ⟨e1, r1, n1, f1⟩ => ?_
  subst e1
  (try simp only [wk, wl, wx, reduceLT, reduceEqDiff, Nat.reduceBEq, reduceIte])
  refine (take_ok (n := (rnumR s).1) r1 hK (by omega)).mono fun v h2 ⟨⟨t1, t2⟩, r2, n2, f2⟩ => ?_
  (try simp only [wk, wl, wx, reduceLT, reduceEqDiff, Nat.reduceBEq, reduceIte, conv_str t1])
  refine WC.ret ?_
  (try simp only [wk, wl, wx, reduceLT, reduceEqDiff, Nat.reduceBEq, reduceIte])
  unfold rtxtR
  exact ⟨by trivial, r2, by omega, f1.trans f2⟩
set_option maxRecDepth 100000 in
set_option maxHeartbeats 4000000 in
theorem cnt_ok {h : H} {K : Nat → Prop} {rb : Nat} {s : RdS} (r : Rd g h K rb s) (hK : ¬ K rb) (hx : s.xs.length < 2 ^ 39) :
    WF (E g) 67 [.ptr rb 0] h fun v h' => v = i64 (cntR s).1 ∧ Rd g h' K rb (cntR s).2 ∧ h'.next = h.next ∧ Fix (· ≠ rb) h h' := by
  have hKb : ∀ b, K b → b ≠ rb := fun b hb e => hK (e ▸ hb)
  have hle := rnumR_le s
  refine WF.enter fn67 rfl ?_
  ((repeat refine WC.seq ?_); refine WC.run ?_)
  (try simp only [wk, wl, wx, reduceLT, reduceEqDiff, Nat.reduceBEq, reduceIte])
  ((repeat refine WC.seq ?_); refine WC.run ?_)
  (try simp only [wk, wl, wx, reduceLT, reduceEqDiff, Nat.reduceBEq, reduceIte])
  refine (rnum_ok r hK hx).mono fun v h1 ⟨e1, r1, n1, f1⟩ => ?_
  subst e1
  obtain ⟨bs, a1, a2, a3⟩ := r1
  (try simp only [wk, wl, wx, reduceLT, reduceEqDiff, Nat.reduceBEq, reduceIte])
  ((repeat refine WC.seq ?_); refine WC.run ?_)
  rcases Decidable.em ((rnumR s).1 < 0) with k1 | k1
  · (try simp only [wk, wl, wx, reduceLT, reduceEqDiff, Nat.reduceBEq, reduceIte, i64, un, fa131_0, Nat.zero_add, a1.at ty22 rfl, Bs.len a2, decide_eq_true k1])
    (repeat refine WC.seq ?_)
    refine WC.cond (b := true) (by (try simp only [wk, wl, wx, reduceLT, reduceEqDiff, Nat.reduceBEq, reduceIte]); (try simp); (try omega)) ?_
    ((repeat refine WC.seq ?_); refine WC.run ?_)
    (try simp only [wk, wl, wx, reduceLT, reduceEqDiff, Nat.reduceBEq, reduceIte, fa131_1, Nat.zero_add])
    refine sat_store a1 ty4 rfl (Nat.le_refl 2) rfl ?_
    intro h2 b2 n2 f2
    have b2 : Has h2 rb [bs, .bool true] := b2
    (try simp only [wk, wl, wx, reduceLT, reduceEqDiff, Nat.reduceBEq, reduceIte])
    ((repeat refine WC.seq ?_); refine WC.run ?_)
    (try simp only [wk, wl, wx, reduceLT, reduceEqDiff, Nat.reduceBEq, reduceIte, fa131_1, Nat.zero_add, b2.at ty4 rfl])
    (repeat refine WC.seq ?_)
    refine WC.cond (b := true) (by (try simp only [wk, wl, wx, reduceLT, reduceEqDiff, Nat.reduceBEq, reduceIte]); (try simp); (try omega)) ?_
    ((repeat refine WC.seq ?_); refine WC.run ?_)
    (try simp only [wk, wl, wx, reduceLT, reduceEqDiff, Nat.reduceBEq, reduceIte])
    refine WC.ret ?_
    (try simp only [wk, wl, wx, reduceLT, reduceEqDiff, Nat.reduceBEq, reduceIte])
    have hc : cntB s = true := by simp [cntB, k1]
    unfold cntR
    rw [hc]
    exact ⟨rfl, ⟨bs, b2, Sl.fix a2 (a3.sub hKb) f2, a3⟩, by omega, f1.trans f2⟩
  rcases Decidable.em (((rnumR s).2.xs.length : Int) < (rnumR s).1) with k2 | k2
  · (try simp only [wk, wl, wx, reduceLT, reduceEqDiff, Nat.reduceBEq, reduceIte, i64, un, fa131_0, Nat.zero_add, a1.at ty22 rfl, Bs.len a2, decide_eq_false k1, decide_eq_true k2])
    (repeat refine WC.seq ?_)
    refine WC.cond (b := true) (by (try simp only [wk, wl, wx, reduceLT, reduceEqDiff, Nat.reduceBEq, reduceIte]); (try simp); (try omega)) ?_
    ((repeat refine WC.seq ?_); refine WC.run ?_)
    (try simp only [wk, wl, wx, reduceLT, reduceEqDiff, Nat.reduceBEq, reduceIte, fa131_1, Nat.zero_add])
    refine sat_store a1 ty4 rfl (Nat.le_refl 2) rfl ?_
    intro h2 b2 n2 f2
    have b2 : Has h2 rb [bs, .bool true] := b2
    (try simp only [wk, wl, wx, reduceLT, reduceEqDiff, Nat.reduceBEq, reduceIte])
    ((repeat refine WC.seq ?_); refine WC.run ?_)
    (try simp only [wk, wl, wx, reduceLT, reduceEqDiff, Nat.reduceBEq, reduceIte, fa131_1, Nat.zero_add, b2.at ty4 rfl])
    (repeat refine WC.seq ?_)
    refine WC.cond (b := true) (by (try simp only [wk, wl, wx, reduceLT, reduceEqDiff, Nat.reduceBEq, reduceIte]); (try simp); (try omega)) ?_
    ((repeat refine WC.seq ?_); refine WC.run ?_)
    (try simp only [wk, wl, wx, reduceLT, reduceEqDiff, Nat.reduceBEq, reduceIte])
    refine WC.ret ?_
    (try simp only [wk, wl, wx, reduceLT, reduceEqDiff, Nat.reduceBEq, reduceIte])
    have hc : cntB s = true := by simp [cntB, k1, k2]
    unfold cntR
    rw [hc]
    exact ⟨rfl, ⟨bs, b2, Sl.fix a2 (a3.sub hKb) f2, a3⟩, by omega, f1.trans f2⟩
  (try simp only [wk, wl, wx, reduceLT, reduceEqDiff, Nat.reduceBEq, reduceIte, i64, un, fa131_0, Nat.zero_add, a1.at ty22 rfl, Bs.len a2, decide_eq_false k1, decide_eq_false k2])
  (repeat refine WC.seq ?_)
  refine WC.cond (b := false) (by (try simp only [wk, wl, wx, reduceLT, reduceEqDiff, Nat.reduceBEq, reduceIte]); (try simp); (try omega)) (WC.skip ?_)
  (try simp only [wk, wl, wx, reduceLT, reduceEqDiff, Nat.reduceBEq, reduceIte])
  ((repeat refine WC.seq ?_); refine WC.run ?_)
  (try simp only [wk, wl, wx, reduceLT, reduceEqDiff, Nat.reduceBEq, reduceIte, fa131_1, Nat.zero_add, a1.at ty4 rfl])
  (repeat refine WC.seq ?_)
  have hc : cntB s = (rnumR s).2.bad := by simp [cntB, k1, k2]
  unfold cntR
  rw [hc]
  cases hb : (rnumR s).2.bad with
  | true =>
    rw [hb] at a1
    refine WC.cond (b := true) (by (try simp only [wk, wl, wx, reduceLT, reduceEqDiff, Nat.reduceBEq, reduceIte, hb]); (try simp); (try omega)) ?_
    ((repeat refine WC.seq ?_); refine WC.run ?_)
    (try simp only [wk, wl, wx, reduceLT, reduceEqDiff, Nat.reduceBEq, reduceIte])
    refine WC.ret ?_
    (try simp only [wk, wl, wx, reduceLT, reduceEqDiff, Nat.reduceBEq, reduceIte])
    exact ⟨by trivial, ⟨bs, a1, a2, a3⟩, n1, f1⟩
  | false =>
    rw [hb] at a1
    refine WC.cond (b := false) (by (try simp only [wk, wl, wx, reduceLT, reduceEqDiff, Nat.reduceBEq, reduceIte, hb]); (try simp); (try omega)) (WC.skip ?_)
    (try simp only [wk, wl, wx, reduceLT, reduceEqDiff, Nat.reduceBEq, reduceIte])
    ((repeat refine WC.seq ?_); refine WC.run ?_)
    (try simp only [wk, wl, wx, reduceLT, reduceEqDiff, Nat.reduceBEq, reduceIte])
    refine WC.ret ?_
    (try simp only [wk, wl, wx, reduceLT, reduceEqDiff, Nat.reduceBEq, reduceIte])
    exact ⟨rfl, ⟨bs, a1, a2, a3⟩, n1, f1⟩

set_option maxRecDepth 100000 in
set_option maxHeartbeats 8000000 in
theorem begun_ok {h : H} {s : V} {b : List UInt8} {k : Nat} (hk : k < 2) (hb : Bs g h s b) (hs : In (· < h.next) s) (hlen : b.length < 2 ^ 39) :
    WF (E g) 65 [s, .str (magB k)] h fun v h' => Kept h h' ∧ (openE k b ≠ 0 → v = .tuple [.nilp, i64 (openE k b)]) ∧ (openE k b = 0 → ∃ rb, v = .tuple [.ptr rb 0, i64 0] ∧ h.next ≤ rb ∧ rb < h'.next ∧ Rd g h' (· < h.next) rb ⟨inner b, false⟩) := by
  refine WF.enter fn65 rfl ?_
  ((repeat refine WC.seq ?_); refine WC.run ?_)
  (try simp only [wk, wl, wx, reduceLT, reduceEqDiff, Nat.reduceBEq, reduceIte])
  by_cases h8 : ((b.length : Int) < 8)
  · have hr : openE k b = 6 := by unfold openE; rw [if_pos (.inl (by omega))]
    ((repeat refine WC.seq ?_); refine WC.draw (plans := pl65_1) (by kernel_rfl) ?_; simp only [pl65_1, List.mem_cons, List.not_mem_nil, or_false, forall_eq_or_imp, forall_eq])
    (try simp (maxSteps := 2000000) only [wk, wl, wx, reduceLT, reduceEqDiff, Nat.reduceBEq, reduceIte, wd, Chk, and_true, true_and, hb.len, decide_eq_true h8, un])
    (repeat refine WC.seq ?_)
    refine WC.cond (b := true) (by (try simp only [wk, wl, wx, reduceLT, reduceEqDiff, Nat.reduceBEq, reduceIte]); (try simp); (try omega)) ?_
    ((repeat refine WC.seq ?_); refine WC.run ?_)
    (try simp only [wk, wl, wx, reduceLT, reduceEqDiff, Nat.reduceBEq, reduceIte])
    refine WC.ret ?_
    (try simp only [wk, wl, wx, reduceLT, reduceEqDiff, Nat.reduceBEq, reduceIte])
    rw [hr]
    exact ⟨Fix.refl _ _, fun _ => rfl, fun q => by cases q⟩
  · have e4 : IntKind.i64.wrap ((b.length : Int) - 4) = ((b.length - 4 : Nat) : Int) := by rw [wrap64 (by omega) (by omega)]; omega
    obtain ⟨s1, p1, p2, p3⟩ := Bs.from hb (n := b.length - 4) (by omega)
    obtain ⟨s2, q1, q2, q3⟩ := Bs.upto hb (n := b.length - 4) (by omega)
    ((repeat refine WC.seq ?_); refine WC.draw (plans := pl65_1) (by kernel_rfl) ?_; simp only [pl65_1, List.mem_cons, List.not_mem_nil, or_false, forall_eq_or_imp, forall_eq])
    (try simp (maxSteps := 2000000) only [wk, wl, wx, reduceLT, reduceEqDiff, Nat.reduceBEq, reduceIte, wd, Chk, and_true, true_and, hb.len, decide_eq_false h8, bin_sub, e4, p1, q1, un])
    refine (rget_ok p2 (by simp; omega)).mono fun v2 h2 ⟨e2, e2'⟩ => ?_
    subst e2 e2'
    (try simp (maxSteps := 2000000) only [wk, wl, wx, reduceLT, reduceEqDiff, Nat.reduceBEq, reduceIte, wd, Chk, and_true, true_and, hb.len, bin_sub, e4])
    refine (rsum_ok q2 (by simp; omega)).mono fun v4 h4 ⟨e5, e5'⟩ => ?_
    subst e5 e5'
    (try simp (maxSteps := 2000000) only [wk, wl, wx, reduceLT, reduceEqDiff, Nat.reduceBEq, reduceIte, wd, Chk, and_true, true_and, hb.len, bin_sub, e4])
    have hlt : leN (b.drop (b.length - 4)) < 256 ^ 4 := by
      have := leN_lt (b.drop (b.length - 4))
      have hl : (b.drop (b.length - 4)).length = 4 := by simp; omega
      rwa [hl] at this
    have hw : IntKind.i64.wrap ((leN (b.drop (b.length - 4)) : Nat) : Int) = ((leN (b.drop (b.length - 4)) : Nat) : Int) := wrap64 (by omega) (by omega)
    rw [hw]
    (repeat refine WC.seq ?_)
    by_cases hsum : leN (b.drop (b.length - 4)) = sumN (b.take (b.length - 4)) % 4294967296
    · refine WC.cond (b := false) (by (try simp only [wk, wl, wx, reduceLT, reduceEqDiff, Nat.reduceBEq, reduceIte]); simp [hsum]) (WC.skip ?_)
      (try simp only [wk, wl, wx, reduceLT, reduceEqDiff, Nat.reduceBEq, reduceIte])
      obtain ⟨s3, t1, t2, t3⟩ := Bs.upto hb (n := 4) (by omega)
      have t1 : sliceV (E g) 22 s none (some (.int .i64 4)) none = some s3 := t1
      ((repeat refine WC.seq ?_); refine WC.run ?_)
      (try simp only [wk, wl, wx, reduceLT, reduceEqDiff, Nat.reduceBEq, reduceIte, t1, conv_str t2, bin_sneq])
      (repeat refine WC.seq ?_)
      by_cases hm : b.take 4 = magB k
      · refine WC.cond (b := false) (by (try simp only [wk, wl, wx, reduceLT, reduceEqDiff, Nat.reduceBEq, reduceIte]); simp [hm]) (WC.skip ?_)
        (try simp only [wk, wl, wx, reduceLT, reduceEqDiff, Nat.reduceBEq, reduceIte])
        obtain ⟨s5, u1, u2, u3⟩ := Bs.part hb (l := 4) (r := b.length - 4) (by omega) (by omega)
        have u1 : sliceV (E g) 22 s (some (.int .i64 4)) (some (.int .i64 (b.length - 4 : Nat))) none = some s5 := u1
        have hbd : buildV (E g) 131 [(0, s5)] = some (.agg [s5, .bool false]) := by
          simp only [buildV, ty131, fillAll, nth, sizeOf_of ty22, (Sl.one u2).1, List.all_cons, List.all_nil, ty22, ty4, Option.isSome_some, Bool.and_true, Bool.not_true, cond_false]
          rfl
        ((repeat refine WC.seq ?_); refine WC.run ?_)
        (try simp only [wk, wl, wx, reduceLT, reduceEqDiff, Nat.reduceBEq, reduceIte, hb.len, bin_sub, e4, u1, hbd])
        refine wop_box (v := .agg [s5, .bool false]) (by (try simp only [wk, wl, wx, reduceLT, reduceEqDiff, Nat.reduceBEq, reduceIte])) ?_
        intro h5 b5 n5 f5
        (try simp only [wk, wl, wx, reduceLT, reduceEqDiff, Nat.reduceBEq, reduceIte])
        refine WC.ret ?_
        (try simp only [wk, wl, wx, reduceLT, reduceEqDiff, Nat.reduceBEq, reduceIte])
        have hr : openE k b = 0 := by unfold openE; rw [if_neg (by rintro (q | q); omega; exact q hsum), if_neg (not_not_intro hm)]
        have K0 := u3 _ hs
        refine ⟨f5, fun q => absurd hr q, fun _ => ⟨_, rfl, by omega, by omega, s5, b5, Sl.fix u2 K0 f5, K0⟩⟩
      · refine WC.cond (b := true) (by (try simp only [wk, wl, wx, reduceLT, reduceEqDiff, Nat.reduceBEq, reduceIte]); simp [hm]) ?_
        ((repeat refine WC.seq ?_); refine WC.run ?_)
        (try simp only [wk, wl, wx, reduceLT, reduceEqDiff, Nat.reduceBEq, reduceIte])
        refine WC.ret ?_
        (try simp only [wk, wl, wx, reduceLT, reduceEqDiff, Nat.reduceBEq, reduceIte])
        have hr : openE k b = 12 := by unfold openE; rw [if_neg (by rintro (q | q); omega; exact q hsum), if_pos hm]
        rw [hr]
        exact ⟨Fix.refl _ _, fun _ => rfl, fun q => by cases q⟩
    · refine WC.cond (b := true) (by (try simp only [wk, wl, wx, reduceLT, reduceEqDiff, Nat.reduceBEq, reduceIte]); simp; omega) ?_
      ((repeat refine WC.seq ?_); refine WC.run ?_)
      (try simp only [wk, wl, wx, reduceLT, reduceEqDiff, Nat.reduceBEq, reduceIte])
      refine WC.ret ?_
      (try simp only [wk, wl, wx, reduceLT, reduceEqDiff, Nat.reduceBEq, reduceIte])
      have hr : openE k b = 6 := by unfold openE; rw [if_pos (.inr hsum)]
      rw [hr]
      exact ⟨Fix.refl _ _, fun _ => rfl, fun q => by cases q⟩
end Go.Proofs.OP

set_option linter.unusedSimpArgs false
namespace Go.Proofs.OP
open Go Go.Ev
open Go.Proofs
open Nat (reduceLT reduceEqDiff)
variable {g : T (List V)}

def rlistR {α : Type} (f : RdS → α × RdS) (k : Nat) (s : RdS) : RdS × List α := eachR (fun x => x.1) (adv f) k (cntR s).1 ((cntR s).2, [])
theorem takR_bad {s : RdS} {n : Int} (h : (takR s n).2.bad = false) : s.bad = false ∧ 0 ≤ n ∧ (takR s n).2.xs.length + n.toNat = s.xs.length := by
  unfold takR at *
  split at h
  · cases h
  · rename_i q
    rw [if_neg q]
    refine ⟨h, by omega, ?_⟩
    simp; omega
theorem rnumR_bad {s : RdS} (h : (rnumR s).2.bad = false) : s.bad = false ∧ (rnumR s).2.xs.length < s.xs.length := by
  unfold rnumR at *
  obtain ⟨a, b, c⟩ := takR_bad h
  exact ⟨a, by simp only at *; omega⟩
theorem rtxtR_bad {s : RdS} (h : (rtxtR s).2.bad = false) : s.bad = false ∧ (rtxtR s).2.xs.length < s.xs.length := by
  unfold rtxtR at *
  obtain ⟨a, b, c⟩ := takR_bad h
  obtain ⟨d, e⟩ := rnumR_bad a
  exact ⟨d, by omega⟩
theorem cntR_lt (s : RdS) : (cntR s).1 < 2 ^ 63 := by
  have h : (rnumR s).1 < 2 ^ 63 := by
    unfold rnumR
    have := wrap_lt ((leN (takR s 8).1 : Nat) : Int)
    show IntKind.i64.wrap _ < _; omega
  unfold cntR
  show (if cntB s = true then 0 else (rnumR s).1) < _
  split
  · decide
  · exact h
end Go.Proofs.OP

namespace Go.Proofs.OP
open Go Go.Ev
theorem leN_leB : ∀ (k n : Nat), leN (leB n k) = n % 256 ^ k
  | 0, n => by simp [leB, leN, Nat.mod_one]
  | k + 1, n => by
    simp only [leB, leN]
    have h8 : (UInt8.ofNat n).toNat = n % 256 := by rw [UInt8.toNat_ofNat']
    rw [leN_leB k (n / 256), h8, Nat.pow_succ, Nat.mul_comm (256 ^ k) 256, Nat.mod_mul]
def In64 (n : Int) : Prop := -9223372036854775808 ≤ n ∧ n ≤ 9223372036854775807
theorem I64_U {n : Int} (h : In64 n) : I64 (U n) = n := by
  unfold I64 U IntKind.wrap In64 at *
  simp only [IntKind.bits, IntKind.signed, Bool.true_and]
  split <;> rename_i q <;> simp at q <;> omega
theorem num_back {n : Int} {r : List UInt8} (hn : In64 n) : numR ⟨leB (U n) 8 ++ r, false⟩ = (n, ⟨r, false⟩) := by
  have hl : (leB (U n) 8).length = 8 := leB_length 8 _
  unfold numR
  have h1 : ¬ (leB (U n) 8 ++ r).length < 8 := by simp [hl]
  simp only [h1, if_false]
  rw [List.take_left' hl, List.drop_left' hl, leN_leB, Nat.mod_eq_of_lt (by have := U_lt n; omega), I64_U hn]
theorem byt_back {xs r : List UInt8} (hx : xs.length < 2 ^ 31) : bytR ⟨txtB [xs] ++ r, false⟩ = (xs, ⟨r, false⟩) := by
  have e : txtB [xs] ++ r = leB (U (xs.length : Int)) 8 ++ (xs ++ r) := by simp [txtB, U_nat (show xs.length < 18446744073709551616 by omega)]
  have hn := num_back (n := (xs.length : Int)) (r := xs ++ r) ⟨by omega, by omega⟩
  unfold bytR
  rw [e, hn]
  simp only
  rw [if_neg (by simp; omega)]
  simp
theorem each_back {α : Type} {f : RdS → α × RdS} {enc : α → List UInt8} : ∀ {L : List α} {k : Nat} {r : List UInt8} {acc : List α}, (∀ x ∈ L, ∀ r, f ⟨enc x ++ r, false⟩ = (x, ⟨r, false⟩)) → L.length ≤ k →
    eachR (fun x => x.1) (adv f) k (L.length : Int) (⟨L.flatMap enc ++ r, false⟩, acc) = (⟨r, false⟩, acc ++ L)
  | [], k, r, acc, _, _ => by
    cases k with
    | zero => simp [eachR]
    | succ k => simp [eachR]
  | x :: L, 0, r, acc, _, hk => by simp at hk
  | x :: L, k + 1, r, acc, h, hk => by
    have e : (x :: L).flatMap enc ++ r = enc x ++ (L.flatMap enc ++ r) := by simp
    have ih := each_back (L := L) (k := k) (r := r) (acc := acc ++ [x]) (fun y hy => h y (List.mem_cons_of_mem _ hy)) (by simpa using hk)
    rw [eachR, if_pos ⟨by simp only [List.length_cons]; omega, rfl⟩]
    have ea : adv f (⟨(x :: L).flatMap enc ++ r, false⟩, acc) = (⟨L.flatMap enc ++ r, false⟩, acc ++ [x]) := by
      unfold adv
      simp only [e, h x (List.mem_cons_self ..)]
    rw [ea, show ((x :: L).length : Int) - 1 = (L.length : Int) by simp, ih]
    simp
theorem list_back {α : Type} {f : RdS → α × RdS} {enc : α → List UInt8} {L : List α} {k : Nat} {r : List UInt8} (h : ∀ x ∈ L, ∀ r, f ⟨enc x ++ r, false⟩ = (x, ⟨r, false⟩)) (hk : L.length ≤ k) (hL : L.length < 2 ^ 62) :
    listR f k ⟨numB [(L.length : Int)] ++ (L.flatMap enc ++ r), false⟩ = (⟨r, false⟩, L) := by
  have e : numB [(L.length : Int)] ++ (L.flatMap enc ++ r) = leB (U (L.length : Int)) 8 ++ (L.flatMap enc ++ r) := by simp [numB]
  unfold listR
  rw [e, num_back ⟨by omega, by omega⟩]
  simp only [each_back h hk, List.nil_append]
theorem txtB_flat (L : List (List UInt8)) : txtB L = L.flatMap fun s => txtB [s] := by simp [txtB]
theorem flat_ge {α : Type} {f : α → List UInt8} : ∀ {L : List α}, (∀ x ∈ L, 1 ≤ (f x).length) → L.length ≤ (L.flatMap f).length
  | [], _ => by simp
  | x :: r, h => by
    have ih := flat_ge (L := r) fun q hq => h q (List.mem_cons_of_mem _ hq)
    have h0 := h x (List.mem_cons_self ..)
    simp only [List.flatMap_cons, List.length_append, List.length_cons]; omega
def rest6 (o : ObjD) : List UInt8 := txtB [o.entry] ++ []
def rest5 (o : ObjD) : List UInt8 := numB [(o.needs.length : Int)] ++ ((o.needs.flatMap fun s => txtB [s]) ++ rest6 o)
def rest4 (o : ObjD) : List UInt8 := numB [(o.rels.length : Int)] ++ (o.rels.flatMap relB ++ rest5 o)
def rest3 (o : ObjD) : List UInt8 := numB [(o.syms.length : Int)] ++ (o.syms.flatMap symB ++ rest4 o)
def rest2 (o : ObjD) : List UInt8 := txtB [o.data] ++ rest3 o
def rest1 (o : ObjD) : List UInt8 := txtB [o.code] ++ rest2 o
def body (o : ObjD) : List UInt8 := txtB [o.name] ++ rest1 o
end Go.Proofs.OP
