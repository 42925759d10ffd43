/- Walks: the two readers. -/
import Derived.Test.YtcngigkkfledgaaGreatC4
set_option linter.unusedVariables false
set_option linter.unusedSimpArgs false
set_option linter.defProp false
set_option linter.unusedSimpArgs false
namespace Go.Proofs.ZP
open Go Go.Ev
open Go.Proofs
variable {g : T (List V)}

/-- A reader: its block, what is left, whether it came short. -/
def Rd (g : T (List V)) (h : H) (K : Nat → Prop) (rb : Nat) (xs : List UInt8) (sh : Bool) : Prop := ∃ bs, Has h rb [bs, .bool sh] ∧ Bs g h bs xs ∧ In K bs
/-- Bytes that were taken. -/
def Pt (g : T (List V)) (h : H) (K : Nat → Prop) (v : V) (xs : List UInt8) : Prop := Bs g h v xs ∧ In K v

theorem Bs.upto {h : H} {s : V} {xs : List UInt8} (a : Bs g h s xs) {n : Nat} (hn : n ≤ xs.length) :
    ∃ s', sliceV (E g) 26 s none (some (.int .i64 n)) none = some s' ∧ Bs g h s' (xs.take n) ∧ (∀ K, In K s → In K s') := by
  obtain ⟨s', h1, h2, h3, _⟩ := Sl.sub a ty26 rfl (sizeOf_of ty5) (lo := none) (hi := some n) (l := 0) (r := n) rfl rfl (Nat.zero_le _) hn
  refine ⟨s', h1, ?_, h3⟩
  have e : (xs.take n).length = n := by simp; omega
  unfold Bs
  rw [e, List.map_take]
  simpa using h2
theorem Bs.from {h : H} {s : V} {xs : List UInt8} (a : Bs g h s xs) {n : Nat} (hn : n ≤ xs.length) :
    ∃ s', sliceV (E g) 26 s (some (.int .i64 n)) none none = some s' ∧ Bs g h s' (xs.drop n) ∧ (∀ K, In K s → In K s') := by
  obtain ⟨s', h1, h2, h3, _⟩ := Sl.sub a ty26 rfl (sizeOf_of ty5) (lo := some n) (hi := none) (l := n) (r := xs.length) rfl rfl hn (Nat.le_refl _)
  refine ⟨s', h1, ?_, h3⟩
  have e : (xs.drop n).length = xs.length - n := by simp
  unfold Bs
  rw [e, List.map_drop]
  have e2 : ((xs.map u8).drop (n * 1)).take ((xs.length - n) * 1) = (xs.map u8).drop n := by
    rw [Nat.mul_one, Nat.mul_one, List.take_of_length_le (by simp)]
  rw [e2] at h2
  exact h2

/-- (*process.reader).take -/
theorem take_ok {h : H} {K : Nat → Prop} {rb n : Nat} {xs : List UInt8} {sh : Bool} (r : Rd g h K rb xs sh) (hK : ¬ K rb) (hn : n < 2 ^ 62) (hx : xs.length < 2 ^ 62) :
    WF (E g) 30 [.ptr rb 0, .int .i64 n] h fun v h' => Pt g h' K v (if n ≤ xs.length then xs.take n else []) ∧ Rd g h' K rb (if n ≤ xs.length then xs.drop n else xs) (if n ≤ xs.length then sh else true) ∧ h'.next = h.next ∧ Fix (· ≠ rb) h h' := by
  obtain ⟨bs, a1, a2, a3⟩ := r
  have hKb : ∀ b, K b → b ≠ rb := fun b hb e => hK (e ▸ hb)
  refine WF.enter fn30 rfl ?_
  ((repeat refine WC.seq ?_); refine WC.run ?_)
  (try simp only [wk, wl, Then, Blk, pickV, Nat.reduceLT, Nat.reduceEqDiff, Nat.reduceBEq, reduceIte, isConst, nilCheckV, extractV, wantJ, nth])
  ((repeat refine WC.seq ?_); refine WC.run ?_)
  (try simp only [wk, wl, Then, Blk, pickV, Nat.reduceLT, Nat.reduceEqDiff, Nat.reduceBEq, reduceIte, isConst, nilCheckV, extractV, wantJ, nth, fa82_0, Nat.zero_add, a1.at ty26 rfl, a2.len])
  (repeat refine WC.seq ?_)
  by_cases hl : n ≤ xs.length
  · simp only [if_pos hl]
    refine WC.cond (b := false) (by (try simp only [wk, wl, Then, Blk, pickV, Nat.reduceLT, Nat.reduceEqDiff, Nat.reduceBEq, reduceIte, isConst, nilCheckV, extractV, wantJ, nth]); (try simp); (try omega)) (WC.skip ?_)
    (try simp only [wk, wl, Then, Blk, pickV, Nat.reduceLT, Nat.reduceEqDiff, Nat.reduceBEq, reduceIte, isConst, nilCheckV, extractV, wantJ, nth])
    obtain ⟨s1, p1, p2, p3⟩ := a2.upto hl
    obtain ⟨s2, q1, q2, q3⟩ := a2.from hl
    ((repeat refine WC.seq ?_); refine WC.run ?_)
    (try simp only [wk, wl, Then, Blk, pickV, Nat.reduceLT, Nat.reduceEqDiff, Nat.reduceBEq, reduceIte, isConst, nilCheckV, extractV, wantJ, nth, fa82_0, Nat.zero_add, a1.at ty26 rfl, p1])
    ((repeat refine WC.seq ?_); refine WC.run ?_)
    (try simp only [wk, wl, Then, Blk, pickV, Nat.reduceLT, Nat.reduceEqDiff, Nat.reduceBEq, reduceIte, isConst, nilCheckV, extractV, wantJ, nth, fa82_0, Nat.zero_add, a1.at ty26 rfl, q1])
    have hc : V.cells s2 = [s2] ∧ V.one s2 = true := by
      have := Sl.len q2
      unfold lenV at this
      split at this <;> first | exact ⟨rfl, rfl⟩ | cases this
    refine sat_store a1 ty26 (by rw [hc.1]; rfl) (by simp) (by rw [hc.1]; simp [hc.2]) ?_
    intro h1 b1 n1 f1
    (try simp only [wk, wl, Then, Blk, pickV, Nat.reduceLT, Nat.reduceEqDiff, Nat.reduceBEq, reduceIte, isConst, nilCheckV, extractV, wantJ, nth])
    ((repeat refine WC.seq ?_); refine WC.run ?_)
    (try simp only [wk, wl, Then, Blk, pickV, Nat.reduceLT, Nat.reduceEqDiff, Nat.reduceBEq, reduceIte, isConst, nilCheckV, extractV, wantJ, nth])
    refine WC.ret ?_
    (try simp only [wk, wl, Then, Blk, pickV, Nat.reduceLT, Nat.reduceEqDiff, Nat.reduceBEq, reduceIte, isConst, nilCheckV, extractV, wantJ, nth])
    rw [hc.1] at b1
    exact ⟨⟨p2.fix (p3 _ (a3.sub hKb)) f1, p3 _ a3⟩, ⟨s2, b1, q2.fix (q3 _ (a3.sub hKb)) f1, q3 _ a3⟩, n1, f1⟩
  · simp only [if_neg hl]
    refine WC.cond (b := true) (by (try simp only [wk, wl, Then, Blk, pickV, Nat.reduceLT, Nat.reduceEqDiff, Nat.reduceBEq, reduceIte, isConst, nilCheckV, extractV, wantJ, nth]); (try simp); (try omega)) ?_
    ((repeat refine WC.seq ?_); refine WC.run ?_)
    (try simp only [wk, wl, Then, Blk, pickV, Nat.reduceLT, Nat.reduceEqDiff, Nat.reduceBEq, reduceIte, isConst, nilCheckV, extractV, wantJ, nth, fa82_1, Nat.zero_add])
    refine sat_store a1 ty4 rfl (by simp) rfl ?_
    intro h1 b1 n1 f1
    (try simp only [wk, wl, Then, Blk, pickV, Nat.reduceLT, Nat.reduceEqDiff, Nat.reduceBEq, reduceIte, isConst, nilCheckV, extractV, wantJ, nth])
    ((repeat refine WC.seq ?_); refine WC.run ?_)
    (try simp only [wk, wl, Then, Blk, pickV, Nat.reduceLT, Nat.reduceEqDiff, Nat.reduceBEq, reduceIte, isConst, nilCheckV, extractV, wantJ, nth])
    refine WC.ret ?_
    (try simp only [wk, wl, Then, Blk, pickV, Nat.reduceLT, Nat.reduceEqDiff, Nat.reduceBEq, reduceIte, isConst, nilCheckV, extractV, wantJ, nth])
    exact ⟨⟨Sl.nil, In.nils⟩, ⟨bs, b1, a2.fix (a3.sub hKb) f1, a3⟩, n1, f1⟩

/-- (*ref.reader).take -/
theorem rtake_ok {h : H} {K : Nat → Prop} {rb n : Nat} {xs : List UInt8} {sh : Bool} (r : Rd g h K rb xs sh) (hK : ¬ K rb) (hn : n < 2 ^ 62) (hx : xs.length < 2 ^ 62) :
    WF (E g) 34 [.ptr rb 0, .int .i64 n] h fun v h' => Pt g h' K v (if sh = false ∧ n ≤ xs.length then xs.take n else []) ∧ Rd g h' K rb (if sh = false ∧ n ≤ xs.length then xs.drop n else xs) (!(decide (sh = false ∧ n ≤ xs.length))) ∧ h'.next = h.next ∧ Fix (· ≠ rb) h h' := by
  obtain ⟨bs, a1, a2, a3⟩ := r
  have hKb : ∀ b, K b → b ≠ rb := fun b hb e => hK (e ▸ hb)
  have hneg : decide ((n : Int) < 0) = false := by simp
  refine WF.enter fn34 rfl ?_
  ((repeat refine WC.seq ?_); refine WC.run ?_)
  (try simp only [wk, wl, Then, Blk, pickV, Nat.reduceLT, Nat.reduceEqDiff, Nat.reduceBEq, reduceIte, isConst, nilCheckV, extractV, wantJ, nth])
  cases sh with
  | true =>
    simp only [Bool.true_eq_false, false_and, if_false, decide_false, Bool.not_false]
    ((repeat refine WC.seq ?_); refine WC.run ?_)
    (try simp only [wk, wl, Then, Blk, pickV, Nat.reduceLT, Nat.reduceEqDiff, Nat.reduceBEq, reduceIte, isConst, nilCheckV, extractV, wantJ, nth, fa89_0, fa89_1, Nat.zero_add, a1.at ty26 rfl, a1.at ty4 rfl, a2.len, hneg])
    (repeat refine WC.seq ?_)
    refine WC.cond (b := true) (by (try simp only [wk, wl, Then, Blk, pickV, Nat.reduceLT, Nat.reduceEqDiff, Nat.reduceBEq, reduceIte, isConst, nilCheckV, extractV, wantJ, nth]); (try simp); (try omega)) ?_
    ((repeat refine WC.seq ?_); refine WC.run ?_)
    (try simp only [wk, wl, Then, Blk, pickV, Nat.reduceLT, Nat.reduceEqDiff, Nat.reduceBEq, reduceIte, isConst, nilCheckV, extractV, wantJ, nth, fa89_1, Nat.zero_add])
    refine sat_store a1 ty4 rfl (by simp) rfl ?_
    intro h1 b1 n1 f1
    (try simp only [wk, wl, Then, Blk, pickV, Nat.reduceLT, Nat.reduceEqDiff, Nat.reduceBEq, reduceIte, isConst, nilCheckV, extractV, wantJ, nth])
    ((repeat refine WC.seq ?_); refine WC.run ?_)
    (try simp only [wk, wl, Then, Blk, pickV, Nat.reduceLT, Nat.reduceEqDiff, Nat.reduceBEq, reduceIte, isConst, nilCheckV, extractV, wantJ, nth])
    refine WC.ret ?_
    (try simp only [wk, wl, Then, Blk, pickV, Nat.reduceLT, Nat.reduceEqDiff, Nat.reduceBEq, reduceIte, isConst, nilCheckV, extractV, wantJ, nth])
    exact ⟨⟨Sl.nil, In.nils⟩, ⟨bs, b1, a2.fix (a3.sub hKb) f1, a3⟩, n1, f1⟩
  | false =>
    simp only [true_and]
    ((repeat refine WC.seq ?_); refine WC.run ?_)
    (try simp only [wk, wl, Then, Blk, pickV, Nat.reduceLT, Nat.reduceEqDiff, Nat.reduceBEq, reduceIte, isConst, nilCheckV, extractV, wantJ, nth, fa89_0, fa89_1, Nat.zero_add, a1.at ty26 rfl, a1.at ty4 rfl, a2.len, hneg])
    (repeat refine WC.seq ?_)
    by_cases hl : n ≤ xs.length
    · simp only [if_pos hl, hl, decide_true, Bool.not_true]
      refine WC.cond (b := false) (by (try simp only [wk, wl, Then, Blk, pickV, Nat.reduceLT, Nat.reduceEqDiff, Nat.reduceBEq, reduceIte, isConst, nilCheckV, extractV, wantJ, nth]); (try simp); (try omega)) (WC.skip ?_)
      (try simp only [wk, wl, Then, Blk, pickV, Nat.reduceLT, Nat.reduceEqDiff, Nat.reduceBEq, reduceIte, isConst, nilCheckV, extractV, wantJ, nth])
      obtain ⟨s1, p1, p2, p3⟩ := a2.upto hl
      obtain ⟨s2, q1, q2, q3⟩ := a2.from hl
      have hc : V.cells s2 = [s2] ∧ V.one s2 = true := by
        have := Sl.len q2
        unfold lenV at this
        split at this <;> first | exact ⟨rfl, rfl⟩ | cases this
      ((repeat refine WC.seq ?_); refine WC.run ?_)
      (try simp only [wk, wl, Then, Blk, pickV, Nat.reduceLT, Nat.reduceEqDiff, Nat.reduceBEq, reduceIte, isConst, nilCheckV, extractV, wantJ, nth, fa89_0, Nat.zero_add, a1.at ty26 rfl, p1])
      ((repeat refine WC.seq ?_); refine WC.run ?_)
      (try simp only [wk, wl, Then, Blk, pickV, Nat.reduceLT, Nat.reduceEqDiff, Nat.reduceBEq, reduceIte, isConst, nilCheckV, extractV, wantJ, nth, fa89_0, Nat.zero_add, a1.at ty26 rfl, q1])
      refine sat_store a1 ty26 (by rw [hc.1]; rfl) (by simp) (by rw [hc.1]; simp [hc.2]) ?_
      intro h1 b1 n1 f1
      (try simp only [wk, wl, Then, Blk, pickV, Nat.reduceLT, Nat.reduceEqDiff, Nat.reduceBEq, reduceIte, isConst, nilCheckV, extractV, wantJ, nth])
      ((repeat refine WC.seq ?_); refine WC.run ?_)
      (try simp only [wk, wl, Then, Blk, pickV, Nat.reduceLT, Nat.reduceEqDiff, Nat.reduceBEq, reduceIte, isConst, nilCheckV, extractV, wantJ, nth])
      refine WC.ret ?_
      (try simp only [wk, wl, Then, Blk, pickV, Nat.reduceLT, Nat.reduceEqDiff, Nat.reduceBEq, reduceIte, isConst, nilCheckV, extractV, wantJ, nth])
      rw [hc.1] at b1
      exact ⟨⟨p2.fix (p3 _ (a3.sub hKb)) f1, p3 _ a3⟩, ⟨s2, b1, q2.fix (q3 _ (a3.sub hKb)) f1, q3 _ a3⟩, n1, f1⟩
    · simp only [if_neg hl, hl, decide_false, Bool.not_false]
      refine WC.cond (b := true) (by (try simp only [wk, wl, Then, Blk, pickV, Nat.reduceLT, Nat.reduceEqDiff, Nat.reduceBEq, reduceIte, isConst, nilCheckV, extractV, wantJ, nth]); (try simp); (try omega)) ?_
      ((repeat refine WC.seq ?_); refine WC.run ?_)
      (try simp only [wk, wl, Then, Blk, pickV, Nat.reduceLT, Nat.reduceEqDiff, Nat.reduceBEq, reduceIte, isConst, nilCheckV, extractV, wantJ, nth, fa89_1, Nat.zero_add])
      refine sat_store a1 ty4 rfl (by simp) rfl ?_
      intro h1 b1 n1 f1
      (try simp only [wk, wl, Then, Blk, pickV, Nat.reduceLT, Nat.reduceEqDiff, Nat.reduceBEq, reduceIte, isConst, nilCheckV, extractV, wantJ, nth])
      ((repeat refine WC.seq ?_); refine WC.run ?_)
      (try simp only [wk, wl, Then, Blk, pickV, Nat.reduceLT, Nat.reduceEqDiff, Nat.reduceBEq, reduceIte, isConst, nilCheckV, extractV, wantJ, nth])
      refine WC.ret ?_
      (try simp only [wk, wl, Then, Blk, pickV, Nat.reduceLT, Nat.reduceEqDiff, Nat.reduceBEq, reduceIte, isConst, nilCheckV, extractV, wantJ, nth])
      exact ⟨⟨Sl.nil, In.nils⟩, ⟨bs, b1, a2.fix (a3.sub hKb) f1, a3⟩, n1, f1⟩
end Go.Proofs.ZP
