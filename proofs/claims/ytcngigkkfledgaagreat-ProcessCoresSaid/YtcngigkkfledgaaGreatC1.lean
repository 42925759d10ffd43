/- Walks: sums, numbers as bytes, names. -/
import Derived.Test.YtcngigkkfledgaaGreatF
import Derived.Test.YtcngigkkfledgaaGreatB10
import Derived.Test.YtcngigkkfledgaaGreatB7
set_option linter.unusedVariables false
set_option linter.unusedSimpArgs false
set_option linter.defProp false
set_option linter.unusedSimpArgs false
namespace Go.Proofs.ZP
open Go Go.Ev
open Go.Proofs
variable {g : T (List V)}

def u8 (c : UInt8) : V := .int .u8 c.toNat
/-- A slice of bytes. -/
abbrev Bs (g : T (List V)) (h : H) (s : V) (xs : List UInt8) : Prop := Sl (E g) h 1 s xs.length (xs.map u8)

theorem Bs.at {h : H} {s : V} {xs : List UInt8} (a : Bs g h s xs) {k : Nat} (hk : k < xs.length) :
    ∃ p, indexAddrV (E g) 26 s (.int .i64 k) = some p ∧ loadP (E g) h 5 p = some (u8 xs[k]) := by
  obtain ⟨p, h1, h2⟩ := Sl.place a ty26 rfl ty5 rfl (by decide) hk
  refine ⟨p, h1, ?_⟩
  rw [h2 h fun _ _ _ _ _ => rfl]
  show (xs.map u8)[k * 1]? = _
  rw [Nat.mul_one, List.getElem?_map, List.getElem?_eq_getElem hk]; rfl
theorem Bs.len {h h' : H} {s : V} {xs : List UInt8} (a : Bs g h s xs) : lenB (E g) h' 26 s = some (.int .i64 xs.length) := Sl.lenB a ty26 rfl h'

def sumN (xs : List UInt8) : Nat := (xs.map (·.toNat)).sum
theorem sumN_take {xs : List UInt8} {i : Nat} (hi : i < xs.length) : sumN (xs.take (i + 1)) = sumN (xs.take i) + xs[i].toNat := by
  unfold sumN
  rw [List.take_succ_eq_append_getElem hi, List.map_append, List.sum_append]
  simp only [List.map_cons, List.map_nil, List.sum_cons, List.sum_nil, Nat.add_zero]
theorem sumN_le (xs : List UInt8) : sumN xs ≤ 255 * xs.length := by
  induction xs with
  | nil => simp [sumN]
  | cons x r ih =>
    have : x.toNat < 256 := x.toNat_lt
    simp only [sumN, List.map_cons, List.sum_cons, List.length_cons] at *
    omega
theorem wrapu32_nat (n : Nat) : IntKind.u32.wrap (n : Int) = ((n % 4294967296 : Nat) : Int) := by
  unfold IntKind.wrap
  simp only [IntKind.bits, IntKind.signed, Bool.false_and, Bool.false_eq_true, if_false]
  omega

/-- process.sum -/
theorem sum_ok {h : H} {s : V} {xs : List UInt8} (hb : Bs g h s xs) (hlen : xs.length < 2 ^ 62) : WF (E g) 24 [s] h fun v h' => v = .int .u32 ((sumN xs % 4294967296 : Nat) : Int) ∧ h' = h := by
  refine WF.enter fn24 rfl ?_
  refine WC.seq (WC.run ?_)
  (try simp only [wk, wl, Then, Blk, pickV, Nat.reduceLT, Nat.reduceEqDiff, Nat.reduceBEq, reduceIte, isConst, nilCheckV, extractV, wantJ, nth])
  refine WC.seq (WC.run ?_)
  (try simp only [wk, wl, Then, Blk, pickV, Nat.reduceLT, Nat.reduceEqDiff, Nat.reduceBEq, reduceIte, isConst, nilCheckV, extractV, wantJ, nth])
  refine WC.seq (WC.seq (WC.run ?_))
  (try simp only [wk, wl, Then, Blk, pickV, Nat.reduceLT, Nat.reduceEqDiff, Nat.reduceBEq, reduceIte, isConst, nilCheckV, extractV, wantJ, nth, hb.len])
  refine WC.block ?_
  refine WC.while (fun m fr hh => ∃ ts i, fr = ⟨ts, 18, [], 24, none⟩ ∧ hh = h ∧ m = xs.length - i ∧ i ≤ xs.length ∧ ts.get 6 = some s ∧ ts.get 7 = some (.int .i64 xs.length) ∧ ts.get 8 = some (.int .i64 i) ∧ ts.get 3 = some (.int .u32 ((sumN (xs.take i) % 4294967296 : Nat) : Int))) ?_ ⟨_, 0, rfl, rfl, rfl, by omega, ?_, ?_, ?_, ?_⟩
  · rintro m fr hh ⟨ts, i, rfl, rfl, rfl, hi, h6, h7, h8, h3⟩
    refine WC.seq (WC.run ?_)
    (try simp only [wk, wl, Then, Blk, pickV, Nat.reduceLT, Nat.reduceEqDiff, Nat.reduceBEq, reduceIte, isConst, nilCheckV, extractV, wantJ, nth, h7, h8])
    refine WC.seq ?_
    by_cases hlt : i < xs.length
    · refine WC.cond (b := true) (by (try simp only [wk, wl, Then, Blk, pickV, Nat.reduceLT, Nat.reduceEqDiff, Nat.reduceBEq, reduceIte, isConst, nilCheckV, extractV, wantJ, nth]); simp; omega) (WC.skip ?_)
      (try simp only [wk, wl, Then, Blk, pickV, Nat.reduceLT, Nat.reduceEqDiff, Nat.reduceBEq, reduceIte, isConst, nilCheckV, extractV, wantJ, nth])
      obtain ⟨p, p1, p2⟩ := hb.at hlt
      refine WC.seq (WC.block (WC.seq (WC.run ?_)))
      (try simp only [wk, wl, Then, Blk, pickV, Nat.reduceLT, Nat.reduceEqDiff, Nat.reduceBEq, reduceIte, isConst, nilCheckV, extractV, wantJ, nth, h6, h8, p1, p2])
      refine WC.run ?_
      (try simp only [wk, wl, Then, Blk, pickV, Nat.reduceLT, Nat.reduceEqDiff, Nat.reduceBEq, reduceIte, isConst, nilCheckV, extractV, wantJ, nth, h3, conv_int ty5 ty71 rfl, u8, bin_add])
      refine WC.run ?_
      (try simp only [wk, wl, Then, Blk, pickV, Nat.reduceLT, Nat.reduceEqDiff, Nat.reduceBEq, reduceIte, isConst, nilCheckV, extractV, wantJ, nth, h8, bin_add])
      refine ⟨_, ?_, _, i+1, rfl, trivial, rfl, by omega, ?_⟩
      · omega
      (try simp only [wk, wl, Then, Blk, pickV, Nat.reduceLT, Nat.reduceEqDiff, Nat.reduceBEq, reduceIte, isConst, nilCheckV, extractV, wantJ, nth, h6, h7])
      refine ⟨trivial, trivial, ?_, ?_⟩
      · rw [wrap64 (by omega) (by omega)]; rfl
      · have e : IntKind.u32.wrap (((sumN (xs.take i) % 4294967296 : Nat) : Int) + IntKind.u32.wrap (xs[i].toNat : Int)) = ((sumN (xs.take (i + 1)) % 4294967296 : Nat) : Int) := by
          rw [sumN_take hlt, wrapu32_nat, ← Int.natCast_add, wrapu32_nat]
          exact congrArg Nat.cast (by omega)
        rw [e]
    · refine WC.cond (b := false) (by (try simp only [wk, wl, Then, Blk, pickV, Nat.reduceLT, Nat.reduceEqDiff, Nat.reduceBEq, reduceIte, isConst, nilCheckV, extractV, wantJ, nth]); simp; omega) (WC.exit ?_)
      have : i = xs.length := by omega
      subst this
      (try simp only [wk, wl, Then, Blk, pickV, Nat.reduceLT, Nat.reduceEqDiff, Nat.reduceBEq, reduceIte, isConst, nilCheckV, extractV, wantJ, nth])
      refine WC.seq (WC.run ?_)
      (try simp only [wk, wl, Then, Blk, pickV, Nat.reduceLT, Nat.reduceEqDiff, Nat.reduceBEq, reduceIte, isConst, nilCheckV, extractV, wantJ, nth, h3])
      refine WC.ret ?_
      (try simp only [wk, wl, Then, Blk, pickV, Nat.reduceLT, Nat.reduceEqDiff, Nat.reduceBEq, reduceIte, isConst, nilCheckV, extractV, wantJ, nth])
      exact ⟨by rw [List.take_length], trivial⟩
  all_goals (try simp only [wk, wl, Then, Blk, pickV, Nat.reduceLT, Nat.reduceEqDiff, Nat.reduceBEq, reduceIte, isConst, nilCheckV, extractV, wantJ, nth])
  all_goals simp [sumN]

theorem tmod_nat (a b : Nat) : Int.tmod (a : Int) (b : Int) = ((a % b : Nat) : Int) := rfl
theorem tdiv_nat (a b : Nat) : Int.tdiv (a : Int) (b : Int) = ((a / b : Nat) : Int) := rfl
theorem fdiv_nat (a b : Nat) : Int.fdiv (a : Int) (b : Int) = ((a / b : Nat) : Int) := by
  rw [Int.fdiv_eq_ediv_of_nonneg _ (by omega)]; exact (Int.natCast_ediv a b).symm
theorem wrapu64_nat (n : Nat) : IntKind.u64.wrap (n : Int) = ((n % 18446744073709551616 : Nat) : Int) := by
  unfold IntKind.wrap
  simp only [IntKind.bits, IntKind.signed, Bool.false_and, Bool.false_eq_true, if_false]
  omega
theorem wrapu8_nat (n : Nat) : IntKind.u8.wrap (n : Int) = ((n % 256 : Nat) : Int) := by
  unfold IntKind.wrap
  simp only [IntKind.bits, IntKind.signed, Bool.false_and, Bool.false_eq_true, if_false]
  omega
theorem u8_ofNat (n : Nat) : V.int .u8 ((n % 256 : Nat) : Int) = u8 (UInt8.ofNat n) := by
  unfold u8
  rw [UInt8.toNat_ofNat']

/-- ref.sum -/
theorem rsum_ok {h : H} {s : V} {xs : List UInt8} (hb : Bs g h s xs) (hlen : xs.length < 2 ^ 40) : WF (E g) 27 [s] h fun v h' => v = .int .i64 ((sumN xs % 4294967296 : Nat) : Int) ∧ h' = h := by
  refine WF.enter fn27 rfl ?_
  refine WC.seq (WC.run ?_)
  (try simp only [wk, wl, Then, Blk, pickV, Nat.reduceLT, Nat.reduceEqDiff, Nat.reduceBEq, reduceIte, isConst, nilCheckV, extractV, wantJ, nth])
  refine WC.seq (WC.run ?_)
  (try simp only [wk, wl, Then, Blk, pickV, Nat.reduceLT, Nat.reduceEqDiff, Nat.reduceBEq, reduceIte, isConst, nilCheckV, extractV, wantJ, nth])
  refine WC.seq (WC.seq (WC.run ?_))
  (try simp only [wk, wl, Then, Blk, pickV, Nat.reduceLT, Nat.reduceEqDiff, Nat.reduceBEq, reduceIte, isConst, nilCheckV, extractV, wantJ, nth, hb.len])
  refine WC.block ?_
  refine WC.while (fun m fr hh => ∃ ts i, fr = ⟨ts, 19, [], 27, none⟩ ∧ hh = h ∧ m = xs.length - i ∧ i ≤ xs.length ∧ ts.get 6 = some s ∧ ts.get 7 = some (.int .i64 xs.length) ∧ ts.get 8 = some (.int .i64 i) ∧ ts.get 3 = some (.int .i64 (sumN (xs.take i) : Nat))) ?_ ⟨_, 0, rfl, rfl, rfl, by omega, ?_, ?_, ?_, ?_⟩
  · rintro m fr hh ⟨ts, i, rfl, rfl, rfl, hi, h6, h7, h8, h3⟩
    refine WC.seq (WC.run ?_)
    (try simp only [wk, wl, Then, Blk, pickV, Nat.reduceLT, Nat.reduceEqDiff, Nat.reduceBEq, reduceIte, isConst, nilCheckV, extractV, wantJ, nth, h7, h8])
    refine WC.seq ?_
    by_cases hlt : i < xs.length
    · refine WC.cond (b := true) (by (try simp only [wk, wl, Then, Blk, pickV, Nat.reduceLT, Nat.reduceEqDiff, Nat.reduceBEq, reduceIte, isConst, nilCheckV, extractV, wantJ, nth]); simp; omega) (WC.skip ?_)
      (try simp only [wk, wl, Then, Blk, pickV, Nat.reduceLT, Nat.reduceEqDiff, Nat.reduceBEq, reduceIte, isConst, nilCheckV, extractV, wantJ, nth])
      obtain ⟨p, p1, p2⟩ := hb.at hlt
      refine WC.seq (WC.block (WC.seq (WC.run ?_)))
      (try simp only [wk, wl, Then, Blk, pickV, Nat.reduceLT, Nat.reduceEqDiff, Nat.reduceBEq, reduceIte, isConst, nilCheckV, extractV, wantJ, nth, h6, h8, p1, p2])
      refine WC.run ?_
      (try simp only [wk, wl, Then, Blk, pickV, Nat.reduceLT, Nat.reduceEqDiff, Nat.reduceBEq, reduceIte, isConst, nilCheckV, extractV, wantJ, nth, h3, conv_int ty5 ty2 rfl, u8, bin_add])
      refine WC.run ?_
      (try simp only [wk, wl, Then, Blk, pickV, Nat.reduceLT, Nat.reduceEqDiff, Nat.reduceBEq, reduceIte, isConst, nilCheckV, extractV, wantJ, nth, h8, bin_add])
      refine ⟨_, ?_, _, i+1, rfl, trivial, rfl, by omega, ?_⟩
      · omega
      (try simp only [wk, wl, Then, Blk, pickV, Nat.reduceLT, Nat.reduceEqDiff, Nat.reduceBEq, reduceIte, isConst, nilCheckV, extractV, wantJ, nth, h6, h7])
      have hx : xs[i].toNat < 256 := xs[i].toNat_lt
      have hs := sumN_le (xs.take i)
      have hl : (xs.take i).length ≤ xs.length := by simp; omega
      refine ⟨trivial, trivial, ?_, ?_⟩
      · rw [wrap64 (by omega) (by omega)]; rfl
      · rw [sumN_take hlt, wrap64 (n := (xs[i].toNat : Int)) (by omega) (by omega), wrap64 (by omega) (by omega)]; rfl
    · refine WC.cond (b := false) (by (try simp only [wk, wl, Then, Blk, pickV, Nat.reduceLT, Nat.reduceEqDiff, Nat.reduceBEq, reduceIte, isConst, nilCheckV, extractV, wantJ, nth]); simp; omega) (WC.exit ?_)
      have : i = xs.length := by omega
      subst this
      (try simp only [wk, wl, Then, Blk, pickV, Nat.reduceLT, Nat.reduceEqDiff, Nat.reduceBEq, reduceIte, isConst, nilCheckV, extractV, wantJ, nth])
      refine WC.seq (WC.run ?_)
      (try simp only [wk, wl, Then, Blk, pickV, Nat.reduceLT, Nat.reduceEqDiff, Nat.reduceBEq, reduceIte, isConst, nilCheckV, extractV, wantJ, nth, h3, bin_rem (show (4294967296 : Int) ≠ 0 by decide)])
      refine WC.ret ?_
      (try simp only [wk, wl, Then, Blk, pickV, Nat.reduceLT, Nat.reduceEqDiff, Nat.reduceBEq, reduceIte, isConst, nilCheckV, extractV, wantJ, nth])
      exact ⟨by rw [List.take_length]; rfl, trivial⟩
  all_goals (try simp only [wk, wl, Then, Blk, pickV, Nat.reduceLT, Nat.reduceEqDiff, Nat.reduceBEq, reduceIte, isConst, nilCheckV, extractV, wantJ, nth])
  all_goals simp [sumN]

/-- The least significant byte first. -/
def leB : Nat → Nat → List UInt8
  | _, 0 => []
  | n, k + 1 => UInt8.ofNat n :: leB (n / 256) k
theorem leB_length : ∀ (k n : Nat), (leB n k).length = k
  | 0, _ => rfl
  | k + 1, n => by simp [leB, leB_length k]
theorem leB_snoc : ∀ (k n : Nat), leB n (k + 1) = leB n k ++ [UInt8.ofNat (n / 256 ^ k)]
  | 0, n => by simp [leB]
  | k + 1, n => by
    rw [leB, leB_snoc k (n / 256)]
    simp only [leB, List.cons_append, Nat.div_div_eq_div_mul]
    rw [Nat.pow_succ, Nat.mul_comm]

/-- A buffer of bytes made longer. -/
abbrev GrewB (g : T (List V)) (h : H) (s : V) (h' : H) (s' : V) (xs : List UInt8) : Prop := Grew (E g) 5 1 h s h' s' xs.length (xs.map u8)
/-- A buffer of bytes. -/
abbrev BufB (g : T (List V)) (h : H) (s : V) (xs : List UInt8) : Prop := Buf (E g) h 5 1 s xs.length (xs.map u8)

theorem u8_one (xs : List UInt8) : (xs.map u8).all V.one = true := by
  rw [List.all_eq_true]; intro x hx; obtain ⟨c, _, rfl⟩ := List.mem_map.1 hx; rfl

/-- Bytes appended to a buffer. -/
theorem app_ok {h0 h : H} {s0 s x : V} {xs ys : List UInt8} {t2 : Nat} {j : TI} {Q : V → H → Prop} (gr : GrewB g h0 s0 h s xs) (hj : (E g).tys.get t2 = some j) (hjd : (∃ e', j.desc = .slice e') ∨ j.desc = .string)
    (hl : lenV x = some ys.length) (hc : srcCells (E g) h 1 ys.length x = some (ys.map u8)) (hsize : xs.length + ys.length ≤ 2 ^ 40)
    (k : ∀ s' h', GrewB g h0 s0 h' s' (xs ++ ys) → Fix (fun c => c < h.next ∧ ∀ o m cc, s ≠ .slice c o m cc) h h' → Q s' h') : Sat1 (r1 (appendB (E g) h 26 t2 s x)) Q :=
  sat_grow gr.buf gr.low ty26 rfl hj hjd ty5 rfl (by decide) (by decide) hl hc (by simp) (u8_one ys) (by simp only [Nat.mul_one]; omega) fun s' h' a =>
    k s' h' ((gr.trans a).len (by rw [List.length_append]) (by rw [List.map_append])) a.fix

/-- binary.appended -/
theorem appended_ok {h : H} {s : V} {xs : List UInt8} {n k : Nat} (hb : BufB g h s xs) (hlow : In (· < h.next) s) (hn : n < 2 ^ 64) (hk : k ≤ 8) (hlen : xs.length ≤ 2 ^ 39) :
    WF (E g) 56 [s, .int .u64 n, .int .i64 k] h fun v h' => GrewB g h s h' v (xs ++ leB n k) := by
  refine WF.enter fn56 rfl ?_
  refine WC.seq (WC.run ?_)
  (try simp only [wk, wl, Then, Blk, pickV, Nat.reduceLT, Nat.reduceEqDiff, Nat.reduceBEq, reduceIte, isConst, nilCheckV, extractV, wantJ, nth])
  refine WC.seq (WC.seq (WC.run ?_))
  (try simp only [wk, wl, Then, Blk, pickV, Nat.reduceLT, Nat.reduceEqDiff, Nat.reduceBEq, reduceIte, isConst, nilCheckV, extractV, wantJ, nth])
  refine WC.block ?_
  refine WC.while (fun m fr hh => ∃ ts i v, fr = ⟨ts, 19, [], 56, none⟩ ∧ GrewB g h s hh v (xs ++ leB n i) ∧ m = k - i ∧ i ≤ k ∧ ts.get 0 = some v ∧ ts.get 1 = some (.int .u64 (n / 256 ^ i : Nat)) ∧ ts.get 7 = some (.int .i64 k) ∧ ts.get 8 = some (.int .i64 i)) ?_ ⟨_, 0, s, rfl, ?_, rfl, by omega, ?_, ?_, ?_, ?_⟩
  · rintro m fr hh ⟨ts, i, v, rfl, gr, rfl, hi, h0, h1, h7, h8⟩
    refine WC.seq (WC.run ?_)
    (try simp only [wk, wl, Then, Blk, pickV, Nat.reduceLT, Nat.reduceEqDiff, Nat.reduceBEq, reduceIte, isConst, nilCheckV, extractV, wantJ, nth, h7, h8])
    refine WC.seq ?_
    by_cases hlt : i < k
    · refine WC.cond (b := true) (by (try simp only [wk, wl, Then, Blk, pickV, Nat.reduceLT, Nat.reduceEqDiff, Nat.reduceBEq, reduceIte, isConst, nilCheckV, extractV, wantJ, nth]); simp; omega) (WC.skip ?_)
      (try simp only [wk, wl, Then, Blk, pickV, Nat.reduceLT, Nat.reduceEqDiff, Nat.reduceBEq, reduceIte, isConst, nilCheckV, extractV, wantJ, nth])
      refine WC.seq (WC.block (WC.seq (WC.run ?_)))
      (try simp only [wk, wl, Then, Blk, pickV, Nat.reduceLT, Nat.reduceEqDiff, Nat.reduceBEq, reduceIte, isConst, nilCheckV, extractV, wantJ, nth, h0, h1, conv_int ty74 ty5 rfl, wrapu8_nat, u8_ofNat])
      refine sat_slice1 ty26 rfl ty5 rfl rfl rfl ?_
      intro h2 b2 n2 f2
      (try simp only [wk, wl, Then, Blk, pickV, Nat.reduceLT, Nat.reduceEqDiff, Nat.reduceBEq, reduceIte, isConst, nilCheckV, extractV, wantJ, nth])
      refine app_ok (ys := [UInt8.ofNat (n / 256 ^ i)]) (gr.keep f2) ty26 (.inl ⟨_, rfl⟩) b2.sl.len b2.sl.cells (by simp [leB_length]; omega) ?_
      intro s' h3 gr3 _
      rw [List.append_assoc, ← leB_snoc] at gr3
      (try simp only [wk, wl, Then, Blk, pickV, Nat.reduceLT, Nat.reduceEqDiff, Nat.reduceBEq, reduceIte, isConst, nilCheckV, extractV, wantJ, nth])
      refine WC.run ?_
      (try simp only [wk, wl, Then, Blk, pickV, Nat.reduceLT, Nat.reduceEqDiff, Nat.reduceBEq, reduceIte, isConst, nilCheckV, extractV, wantJ, nth, h1, bin_shr (show (0 : Int) ≤ 8 by decide)])
      refine WC.run ?_
      (try simp only [wk, wl, Then, Blk, pickV, Nat.reduceLT, Nat.reduceEqDiff, Nat.reduceBEq, reduceIte, isConst, nilCheckV, extractV, wantJ, nth, h8, bin_add])
      refine ⟨_, ?_, _, i+1, s', rfl, gr3, rfl, by omega, ?_⟩
      · omega
      (try simp only [wk, wl, Then, Blk, pickV, Nat.reduceLT, Nat.reduceEqDiff, Nat.reduceBEq, reduceIte, isConst, nilCheckV, extractV, wantJ, nth, h7])
      refine ⟨trivial, ?_, trivial, ?_⟩
      · have e : (((n / 256 ^ i : Nat) : Int).fdiv (2 ^ (min (8 : Int).toNat IntKind.u64.bits))) = ((n / 256 ^ (i + 1) : Nat) : Int) := by
          have : ((2 : Int) ^ (min (8 : Int).toNat IntKind.u64.bits)) = ((256 : Nat) : Int) := by decide
          rw [this, fdiv_nat, Nat.pow_succ, Nat.div_div_eq_div_mul]
        rw [e]
      · rw [wrap64 (by omega) (by omega)]; rfl
    · refine WC.cond (b := false) (by (try simp only [wk, wl, Then, Blk, pickV, Nat.reduceLT, Nat.reduceEqDiff, Nat.reduceBEq, reduceIte, isConst, nilCheckV, extractV, wantJ, nth]); simp; omega) (WC.exit ?_)
      have : i = k := by omega
      subst this
      (try simp only [wk, wl, Then, Blk, pickV, Nat.reduceLT, Nat.reduceEqDiff, Nat.reduceBEq, reduceIte, isConst, nilCheckV, extractV, wantJ, nth])
      refine WC.seq (WC.run ?_)
      (try simp only [wk, wl, Then, Blk, pickV, Nat.reduceLT, Nat.reduceEqDiff, Nat.reduceBEq, reduceIte, isConst, nilCheckV, extractV, wantJ, nth, h0])
      refine WC.ret ?_
      (try simp only [wk, wl, Then, Blk, pickV, Nat.reduceLT, Nat.reduceEqDiff, Nat.reduceBEq, reduceIte, isConst, nilCheckV, extractV, wantJ, nth])
      exact gr
  · simpa [leB] using Grew.refl hb hlow
  all_goals (try simp only [wk, wl, Then, Blk, pickV, Nat.reduceLT, Nat.reduceEqDiff, Nat.reduceBEq, reduceIte, isConst, nilCheckV, extractV, wantJ, nth])
  all_goals simp
end Go.Proofs.ZP
