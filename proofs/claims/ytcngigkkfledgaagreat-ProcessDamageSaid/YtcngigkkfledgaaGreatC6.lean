/- Walks: (*reader).number. -/
import Derived.Test.YtcngigkkfledgaaGreatC5
import Derived.Test.YtcngigkkfledgaaGreatB8
set_option linter.unusedVariables false
set_option linter.unusedSimpArgs false
set_option linter.defProp false
set_option linter.unusedSimpArgs false
namespace Go.Proofs.ZP
open Go Go.Ev
open Go.Proofs
variable {g : T (List V)}

def zero8 : List V := [.int .u8 0, .int .u8 0, .int .u8 0, .int .u8 0, .int .u8 0, .int .u8 0, .int .u8 0, .int .u8 0]
theorem zero8_rep : zero8 = List.replicate 8 (u8 0) := rfl
theorem leN_zeros : ∀ (n : Nat), leN (List.replicate n (0 : UInt8)) = 0
  | 0 => rfl
  | n + 1 => by simp [List.replicate_succ, leN, leN_zeros n]
theorem leN_append_zeros (xs : List UInt8) (n : Nat) : leN (xs ++ List.replicate n 0) = leN xs := by
  induction xs with
  | nil => simpa [leN] using leN_zeros n
  | cons c r ih => simp [leN, ih]
theorem over_zero8 {xs : List UInt8} (hx : xs.length ≤ 8) : over zero8 0 (xs.map u8) = (xs ++ List.replicate (8 - xs.length) 0).map u8 := by
  unfold over
  rw [zero8_rep, List.drop_replicate, List.map_append, List.map_replicate]
  simp only [List.take_zero, List.nil_append, Nat.zero_add, List.length_map]

/-- (*process.reader).number -/
theorem number_ok {h : H} {K : Nat → Prop} {rb n : Nat} {xs : List UInt8} {sh : Bool} (r : Rd g h K rb xs sh) (hK : ¬ K rb) (hKn : ∀ b, K b → b < h.next) (hrb : rb < h.next) (hn : n ≤ 8) (hx : xs.length < 2 ^ 62) :
    WF (E g) 29 [.ptr rb 0, .int .i64 n] h fun v h' => v = .int .u64 (leN (if n ≤ xs.length then xs.take n else []) : Nat) ∧ Rd g h' K rb (if n ≤ xs.length then xs.drop n else xs) (if n ≤ xs.length then sh else true) ∧ Fix (fun b => b < h.next ∧ b ≠ rb) h h' := by
  obtain ⟨bs, a1, a2, a3⟩ := r
  have hKb : ∀ b, K b → b ≠ rb := fun b hb e => hK (e ▸ hb)
  refine WF.enter fn29 rfl ?_
  ((repeat refine WC.seq ?_); refine WC.run ?_)
  (try simp only [wk, wl, Then, Blk, pickV, Nat.reduceLT, Nat.reduceEqDiff, Nat.reduceBEq, reduceIte, isConst, nilCheckV, extractV, wantJ, nth])
  ((repeat refine WC.seq ?_); refine WC.run ?_)
  (try simp only [wk, wl, Then, Blk, pickV, Nat.reduceLT, Nat.reduceEqDiff, Nat.reduceBEq, reduceIte, isConst, nilCheckV, extractV, wantJ, nth, build_arr0 ty126 rfl (sizeOf_of ty5)])
  refine wop_alloc ty126 ?_
  intro h1 b1 n1 f1
  (try simp only [wk, wl, Then, Blk, pickV, Nat.reduceLT, Nat.reduceEqDiff, Nat.reduceBEq, reduceIte, isConst, nilCheckV, extractV, wantJ, nth])
  refine sat_store b1 ty126 rfl (by decide) (by decide) ?_
  intro h2 b2 n2 f2
  (try simp only [wk, wl, Then, Blk, pickV, Nat.reduceLT, Nat.reduceEqDiff, Nat.reduceBEq, reduceIte, isConst, nilCheckV, extractV, wantJ, nth])
  have b2 : Has h2 h.next zero8 := b2
  have r2 : Rd g h2 K rb xs sh := ⟨bs, (a1.fix f1 hrb).fix f2 (by omega), (a2.fix (a3.sub hKn) f1).fix (a3.sub fun b hb => by have := hKn b hb; omega) f2, a3⟩
  ((repeat refine WC.seq ?_); refine WC.draw (plans := pl29_2) (by kernel_rfl) ?_; simp only [pl29_2, List.mem_cons, List.not_mem_nil, or_false, forall_eq_or_imp, forall_eq])
  (try simp only [wk, wl, Then, Blk, pickV, Nat.reduceLT, Nat.reduceEqDiff, Nat.reduceBEq, reduceIte, isConst, nilCheckV, extractV, wantJ, nth, wd, Chk, and_true, true_and, slice_arr ty126 rfl (sizeOf_of ty5)])
  refine (take_ok r2 hK (by omega) hx).mono fun v h3 ⟨t1, t2, t3, t4⟩ => ?_
  (try simp only [wk, wl, Then, Blk, pickV, Nat.reduceLT, Nat.reduceEqDiff, Nat.reduceBEq, reduceIte, isConst, nilCheckV, extractV, wantJ, nth, wd, Chk, and_true, true_and])
  obtain ⟨t1, t1'⟩ := t1
  have b3 : Has h3 h.next zero8 := b2.fix t4 (by omega)
  generalize hout : (if n ≤ xs.length then xs.take n else []) = out at t1 ⊢
  have hol : out.length ≤ 8 := by
    subst hout
    split
    · simp; omega
    · simp
  have hmin : Nat.min out.length 8 = out.length := Nat.min_eq_left hol
  refine sat_copy (n := 8) b3 ty26 rfl ty5 rfl (Sl.len t1) (vs := out.map u8) (by rw [hmin]; exact t1.cells) (by simp [zero8]; omega) (u8_one out) ?_
  intro h4 b4 n4 f4
  rw [over_zero8 hol] at b4
  (try simp only [wk, wl, Then, Blk, pickV, Nat.reduceLT, Nat.reduceEqDiff, Nat.reduceBEq, reduceIte, isConst, nilCheckV, extractV, wantJ, nth, wd, Chk, and_true, true_and])
  ((repeat refine WC.seq ?_); refine WC.draw (plans := pl29_3) (by kernel_rfl) ?_; simp only [pl29_3, List.mem_cons, List.not_mem_nil, or_false, forall_eq_or_imp, forall_eq])
  (try simp only [wk, wl, Then, Blk, pickV, Nat.reduceLT, Nat.reduceEqDiff, Nat.reduceBEq, reduceIte, isConst, nilCheckV, extractV, wantJ, nth, wd, Chk, and_true, true_and, slice_arr ty126 rfl (sizeOf_of ty5)])
  refine le_ok.mono fun v5 h5 ⟨e5, f5⟩ => ?_
  subst e5
  (try simp only [wk, wl, Then, Blk, pickV, Nat.reduceLT, Nat.reduceEqDiff, Nat.reduceBEq, reduceIte, isConst, nilCheckV, extractV, wantJ, nth, wd, Chk, and_true, true_and])
  have hlen8 : (out ++ List.replicate (8 - out.length) (0 : UInt8)).length = 8 := by simp; omega
  have b5 := b4.fix f5 (by omega)
  have s5 : Bs g h5 (.slice h.next 0 8 (.lit 8)) (out ++ List.replicate (8 - out.length) 0) := by
    have := Has.sl (E := E g) (n := 8) (sz := 1) b5 (by simp; omega)
    unfold Bs; rw [hlen8]; exact this
  refine (u64_ok s5 (fun b o n c e => by injection e with e; subst e; have := f5.next; omega) (by omega)).mono fun v6 h6 ⟨e6, f6⟩ => ?_
  subst e6
  (try simp only [wk, wl, Then, Blk, pickV, Nat.reduceLT, Nat.reduceEqDiff, Nat.reduceBEq, reduceIte, isConst, nilCheckV, extractV, wantJ, nth, wd, Chk, and_true, true_and])
  (repeat refine WC.seq ?_)
  refine WC.ret ?_
  (try simp only [wk, wl, Then, Blk, pickV, Nat.reduceLT, Nat.reduceEqDiff, Nat.reduceBEq, reduceIte, isConst, nilCheckV, extractV, wantJ, nth])
  obtain ⟨bs', c1, c2, c3⟩ := t2
  have hfix : Fix (fun b => b < h.next ∧ b ≠ rb) h h6 := ⟨by have := f5.next; have := f6.next; omega, fun c hc => by
    have := f5.next
    rw [f6.same c (by omega), f5.same c (by omega), f4.same c (by omega), t4.same c hc.2, f2.same c (by omega), f1.same c hc.1]⟩
  have k3 : ∀ b, K b → b < h3.next ∧ b ≠ h.next := fun b hb => by have := hKn b hb; omega
  refine ⟨?_, ⟨bs', ?_, ?_, c3⟩, hfix⟩
  · rw [List.take_of_length_le (by omega), leN_append_zeros]
  · exact ((c1.fix f4 (by omega)).fix f5 (by omega)).fix f6 (by have := f5.next; omega)
  · exact ((c2.fix (c3.sub fun b hb => (k3 b hb).2) f4).fix (c3.sub fun b hb => by have := k3 b hb; omega) f5).fix (c3.sub fun b hb => by have := k3 b hb; have := f5.next; omega) f6
end Go.Proofs.ZP
