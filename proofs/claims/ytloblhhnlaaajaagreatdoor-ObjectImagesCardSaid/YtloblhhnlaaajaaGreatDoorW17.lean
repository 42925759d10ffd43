/- Walks: sums, numbers as bytes, names. -/
import Derived.Test.YtloblhhnlaaajaaGreatDoorW15
import Derived.Test.YtloblhhnlaaajaaGreatDoorW16
import Derived.Test.YtloblhhnlaaajaaGreatDoorW14
import Derived.Test.YtloblhhnlaaajaaGreatDoorW13
set_option linter.unusedVariables false
set_option linter.unusedSimpArgs false
set_option linter.defProp false
set_option linter.unusedSimpArgs false
namespace Go.Proofs.OP
open Go Go.Ev
open Go.Proofs
open Nat (reduceLT reduceEqDiff)
variable {g : T (List V)}

def u8 (c : UInt8) : V := .int .u8 c.toNat
abbrev Bs (g : T (List V)) (h : H) (s : V) (xs : List UInt8) : Prop := Sl (E g) h 1 s xs.length (xs.map u8)

theorem Bs.at {h : H} {s : V} {xs : List UInt8} (a : Bs g h s xs) {k : Nat} (hk : k < xs.length) :
    ∃ p, indexAddrV (E g) 22 s (.int .i64 k) = some p ∧ loadP (E g) h 5 p = some (u8 xs[k]) := by
  obtain ⟨p, h1, h2⟩ := Sl.place a ty22 rfl ty5 rfl (by decide) hk
  refine ⟨p, h1, ?_⟩
  rw [h2 h fun _ _ _ _ _ => rfl]
  show (xs.map u8)[k * 1]? = _
  rw [Nat.mul_one, List.getElem?_map, List.getElem?_eq_getElem hk]; rfl
theorem Bs.len {h h' : H} {s : V} {xs : List UInt8} (a : Bs g h s xs) : lenB (E g) h' 22 s = some (.int .i64 xs.length) := Sl.lenB a ty22 rfl h'

def sumN (xs : List UInt8) : Nat := (xs.map (·.toNat)).sum
theorem sumN_take {xs : List UInt8} {i : Nat} (hi : i < xs.length) : sumN (xs.take (i + 1)) = sumN (xs.take i) + xs[i].toNat := by
  unfold sumN
  rw [List.take_succ_eq_append_getElem hi, List.map_append, List.sum_append]
  simp only [List.map_cons, List.map_nil, List.sum_cons, List.sum_nil, Nat.add_zero]
theorem sumN_le (xs : List UInt8) : sumN xs ≤ 255 * xs.length := by
  induction xs with
  | nil => simp [sumN]
  | cons x r ih =>
    have : x.toNat < 256 := x.toNat_lt
    simp only [sumN, List.map_cons, List.sum_cons, List.length_cons] at *
    omega
theorem wrapu32_nat (n : Nat) : IntKind.u32.wrap (n : Int) = ((n % 4294967296 : Nat) : Int) := by
  unfold IntKind.wrap
  simp only [IntKind.bits, IntKind.signed, Bool.false_and, Bool.false_eq_true, if_false]
  omega

theorem sum_ok {h : H} {s : V} {xs : List UInt8} (hb : Bs g h s xs) (hlen : xs.length < 2 ^ 62) : WF (E g) 99 [s] h fun v h' => v = .int .u32 ((sumN xs % 4294967296 : Nat) : Int) ∧ h' = h := by
  refine WF.enter fn99 rfl ?_
  refine WC.seq (WC.run ?_)
  (try simp only [wk, wl, wx, reduceLT, reduceEqDiff, Nat.reduceBEq, reduceIte])
  refine WC.seq (WC.run ?_)
  (try simp only [wk, wl, wx, reduceLT, reduceEqDiff, Nat.reduceBEq, reduceIte])
  refine WC.seq (WC.seq (WC.run ?_))
  (try simp only [wk, wl, wx, reduceLT, reduceEqDiff, Nat.reduceBEq, reduceIte, hb.len])
  refine WC.block ?_
  refine WC.while (fun m fr hh => ∃ ts i, fr = ⟨ts, 18, [], 99, none⟩ ∧ hh = h ∧ m = xs.length - i ∧ i ≤ xs.length ∧ ts.get 6 = some s ∧ ts.get 7 = some (.int .i64 xs.length) ∧ ts.get 8 = some (.int .i64 i) ∧ ts.get 3 = some (.int .u32 ((sumN (xs.take i) % 4294967296 : Nat) : Int))) ?_ ⟨_, 0, rfl, rfl, rfl, by omega, ?_, ?_, ?_, ?_⟩
  · rintro m fr hh ⟨ts, i, rfl, rfl, rfl, hi, h6, h7, h8, h3⟩
    refine WC.seq (WC.run ?_)
    (try simp only [wk, wl, wx, reduceLT, reduceEqDiff, Nat.reduceBEq, reduceIte, h7, h8])
    refine WC.seq ?_
    by_cases hlt : i < xs.length
    · refine WC.cond (b := true) (by (try simp only [wk, wl, wx, reduceLT, reduceEqDiff, Nat.reduceBEq, reduceIte]); simp; omega) (WC.skip ?_)
      (try simp only [wk, wl, wx, reduceLT, reduceEqDiff, Nat.reduceBEq, reduceIte])
      obtain ⟨p, p1, p2⟩ := hb.at hlt
      refine WC.seq (WC.block (WC.seq (WC.run ?_)))
      (try simp only [wk, wl, wx, reduceLT, reduceEqDiff, Nat.reduceBEq, reduceIte, h6, h8, p1, p2])
      refine WC.run ?_
      (try simp only [wk, wl, wx, reduceLT, reduceEqDiff, Nat.reduceBEq, reduceIte, h3, conv_int ty5 ty191 rfl, u8, bin_add])
      refine WC.run ?_
      (try simp only [wk, wl, wx, reduceLT, reduceEqDiff, Nat.reduceBEq, reduceIte, h8, bin_add])
      refine ⟨_, ?_, _, i+1, rfl, trivial, rfl, by omega, ?_⟩
      · omega
      (try simp only [wk, wl, wx, reduceLT, reduceEqDiff, Nat.reduceBEq, reduceIte, h6, h7])
      refine ⟨trivial, trivial, ?_, ?_⟩
      · rw [wrap64 (by omega) (by omega)]; rfl
      · have e : IntKind.u32.wrap (((sumN (xs.take i) % 4294967296 : Nat) : Int) + IntKind.u32.wrap (xs[i].toNat : Int)) = ((sumN (xs.take (i + 1)) % 4294967296 : Nat) : Int) := by
          rw [sumN_take hlt, wrapu32_nat, ← Int.natCast_add, wrapu32_nat]
          exact congrArg Nat.cast (by omega)
        rw [e]
    · refine WC.cond (b := false) (by (try simp only [wk, wl, wx, reduceLT, reduceEqDiff, Nat.reduceBEq, reduceIte]); simp; omega) (WC.exit ?_)
      have : i = xs.length := by omega
      subst this
      (try simp only [wk, wl, wx, reduceLT, reduceEqDiff, Nat.reduceBEq, reduceIte])
      refine WC.seq (WC.run ?_)
      (try simp only [wk, wl, wx, reduceLT, reduceEqDiff, Nat.reduceBEq, reduceIte, h3])
      refine WC.ret ?_
      (try simp only [wk, wl, wx, reduceLT, reduceEqDiff, Nat.reduceBEq, reduceIte])
      exact ⟨by rw [List.take_length], trivial⟩
  all_goals (try simp only [wk, wl, wx, reduceLT, reduceEqDiff, Nat.reduceBEq, reduceIte])
  all_goals simp [sumN]

theorem tdiv_nat (a b : Nat) : Int.tdiv (a : Int) (b : Int) = ((a / b : Nat) : Int) := rfl
theorem fdiv_nat (a b : Nat) : Int.fdiv (a : Int) (b : Int) = ((a / b : Nat) : Int) := by
  rw [Int.fdiv_eq_ediv_of_nonneg _ (by omega)]; exact (Int.natCast_ediv a b).symm
theorem wrapu64_nat (n : Nat) : IntKind.u64.wrap (n : Int) = ((n % 18446744073709551616 : Nat) : Int) := by
  unfold IntKind.wrap
  simp only [IntKind.bits, IntKind.signed, Bool.false_and, Bool.false_eq_true, if_false]
  omega
theorem wrapu8_nat (n : Nat) : IntKind.u8.wrap (n : Int) = ((n % 256 : Nat) : Int) := by
  unfold IntKind.wrap
  simp only [IntKind.bits, IntKind.signed, Bool.false_and, Bool.false_eq_true, if_false]
  omega
theorem u8_ofNat (n : Nat) : V.int .u8 ((n % 256 : Nat) : Int) = u8 (UInt8.ofNat n) := by
  unfold u8
  rw [UInt8.toNat_ofNat']

theorem rsum_ok {h : H} {s : V} {xs : List UInt8} (hb : Bs g h s xs) (hlen : xs.length < 2 ^ 40) : WF (E g) 55 [s] h fun v h' => v = .int .i64 ((sumN xs % 4294967296 : Nat) : Int) ∧ h' = h := by
  refine WF.enter fn55 rfl ?_
  refine WC.seq (WC.run ?_)
  (try simp only [wk, wl, wx, reduceLT, reduceEqDiff, Nat.reduceBEq, reduceIte])
  refine WC.seq (WC.run ?_)
  (try simp only [wk, wl, wx, reduceLT, reduceEqDiff, Nat.reduceBEq, reduceIte])
  refine WC.seq (WC.seq (WC.run ?_))
  (try simp only [wk, wl, wx, reduceLT, reduceEqDiff, Nat.reduceBEq, reduceIte, hb.len])
  refine WC.block ?_
  refine WC.while (fun m fr hh => ∃ ts i, fr = ⟨ts, 19, [], 55, none⟩ ∧ hh = h ∧ m = xs.length - i ∧ i ≤ xs.length ∧ ts.get 6 = some s ∧ ts.get 7 = some (.int .i64 xs.length) ∧ ts.get 8 = some (.int .i64 i) ∧ ts.get 3 = some (.int .i64 (sumN (xs.take i) : Nat))) ?_ ⟨_, 0, rfl, rfl, rfl, by omega, ?_, ?_, ?_, ?_⟩
  · rintro m fr hh ⟨ts, i, rfl, rfl, rfl, hi, h6, h7, h8, h3⟩
    refine WC.seq (WC.run ?_)
    (try simp only [wk, wl, wx, reduceLT, reduceEqDiff, Nat.reduceBEq, reduceIte, h7, h8])
    refine WC.seq ?_
    by_cases hlt : i < xs.length
    · refine WC.cond (b := true) (by (try simp only [wk, wl, wx, reduceLT, reduceEqDiff, Nat.reduceBEq, reduceIte]); simp; omega) (WC.skip ?_)
      (try simp only [wk, wl, wx, reduceLT, reduceEqDiff, Nat.reduceBEq, reduceIte])
      obtain ⟨p, p1, p2⟩ := hb.at hlt
      refine WC.seq (WC.block (WC.seq (WC.run ?_)))
      (try simp only [wk, wl, wx, reduceLT, reduceEqDiff, Nat.reduceBEq, reduceIte, h6, h8, p1, p2])
      refine WC.run ?_
      (try simp only [wk, wl, wx, reduceLT, reduceEqDiff, Nat.reduceBEq, reduceIte, h3, conv_int ty5 ty2 rfl, u8, bin_add])
      refine WC.run ?_
      (try simp only [wk, wl, wx, reduceLT, reduceEqDiff, Nat.reduceBEq, reduceIte, h8, bin_add])
      refine ⟨_, ?_, _, i+1, rfl, trivial, rfl, by omega, ?_⟩
      · omega
      (try simp only [wk, wl, wx, reduceLT, reduceEqDiff, Nat.reduceBEq, reduceIte, h6, h7])
      have hx : xs[i].toNat < 256 := xs[i].toNat_lt
      have hs := sumN_le (xs.take i)
      have hl : (xs.take i).length ≤ xs.length := by simp; omega
      refine ⟨trivial, trivial, ?_, ?_⟩
      · rw [wrap64 (by omega) (by omega)]; rfl
      · rw [sumN_take hlt, wrap64 (n := (xs[i].toNat : Int)) (by omega) (by omega), wrap64 (by omega) (by omega)]; rfl
    · refine WC.cond (b := false) (by (try simp only [wk, wl, wx, reduceLT, reduceEqDiff, Nat.reduceBEq, reduceIte]); simp; omega) (WC.exit ?_)
      have : i = xs.length := by omega
      subst this
      (try simp only [wk, wl, wx, reduceLT, reduceEqDiff, Nat.reduceBEq, reduceIte])
      refine WC.seq (WC.run ?_)
      (try simp only [wk, wl, wx, reduceLT, reduceEqDiff, Nat.reduceBEq, reduceIte, h3, bin_rem (show (4294967296 : Int) ≠ 0 by decide)])
      refine WC.ret ?_
      (try simp only [wk, wl, wx, reduceLT, reduceEqDiff, Nat.reduceBEq, reduceIte])
      exact ⟨by rw [List.take_length]; rfl, trivial⟩
  all_goals (try simp only [wk, wl, wx, reduceLT, reduceEqDiff, Nat.reduceBEq, reduceIte])
  all_goals simp [sumN]

def leB : Nat → Nat → List UInt8
  | _, 0 => []
  | n, k + 1 => UInt8.ofNat n :: leB (n / 256) k
theorem leB_length : ∀ (k n : Nat), (leB n k).length = k
  | 0, _ => rfl
  | k + 1, n => by simp [leB, leB_length k]
theorem leB_snoc : ∀ (k n : Nat), leB n (k + 1) = leB n k ++ [UInt8.ofNat (n / 256 ^ k)]
  | 0, n => by simp [leB]
  | k + 1, n => by
    rw [leB, leB_snoc k (n / 256)]
    simp only [leB, List.cons_append, Nat.div_div_eq_div_mul]
    rw [Nat.pow_succ, Nat.mul_comm]

abbrev GrewB (g : T (List V)) (h : H) (s : V) (h' : H) (s' : V) (xs : List UInt8) : Prop := Grew (E g) 5 1 h s h' s' xs.length (xs.map u8)
abbrev BufB (g : T (List V)) (h : H) (s : V) (xs : List UInt8) : Prop := Buf (E g) h 5 1 s xs.length (xs.map u8)

theorem u8_one (xs : List UInt8) : (xs.map u8).all V.one = true := by
  rw [List.all_eq_true]; intro x hx; obtain ⟨c, _, rfl⟩ := List.mem_map.1 hx; rfl

theorem app_ok {h0 h : H} {s0 s x : V} {xs ys : List UInt8} {t2 : Nat} {j : TI} {Q : V → H → Prop} (gr : GrewB g h0 s0 h s xs) (hj : (E g).tys.get t2 = some j) (hjd : (∃ e', j.desc = .slice e') ∨ j.desc = .string)
    (hl : lenV x = some ys.length) (hc : srcCells (E g) h 1 ys.length x = some (ys.map u8)) (hsize : xs.length + ys.length ≤ 2 ^ 40)
    (k : ∀ s' h', GrewB g h0 s0 h' s' (xs ++ ys) → Fix (fun c => c < h.next ∧ ∀ o m cc, s ≠ .slice c o m cc) h h' → Q s' h') : Sat1 (r1 (appendB (E g) h 22 t2 s x)) Q :=
  sat_grow gr.buf gr.low ty22 rfl hj hjd ty5 rfl (by decide) (by decide) hl hc (by simp) (u8_one ys) (by simp only [Nat.mul_one]; omega) fun s' h' a =>
    k s' h' ((gr.trans a).len (by rw [List.length_append]) (by rw [List.map_append])) a.fix

theorem appended_ok {h : H} {s : V} {xs : List UInt8} {n k : Nat} (hb : BufB g h s xs) (hlow : In (· < h.next) s) (hn : n < 2 ^ 64) (hk : k ≤ 8) (hlen : xs.length ≤ 2 ^ 39) :
    WF (E g) 121 [s, .int .u64 n, .int .i64 k] h fun v h' => GrewB g h s h' v (xs ++ leB n k) := by
  refine WF.enter fn121 rfl ?_
  refine WC.seq (WC.run ?_)
  (try simp only [wk, wl, wx, reduceLT, reduceEqDiff, Nat.reduceBEq, reduceIte])
  refine WC.seq (WC.seq (WC.run ?_))
  (try simp only [wk, wl, wx, reduceLT, reduceEqDiff, Nat.reduceBEq, reduceIte])
  refine WC.block ?_
  refine WC.while (fun m fr hh => ∃ ts i v, fr = ⟨ts, 19, [], 121, none⟩ ∧ GrewB g h s hh v (xs ++ leB n i) ∧ m = k - i ∧ i ≤ k ∧ ts.get 0 = some v ∧ ts.get 1 = some (.int .u64 (n / 256 ^ i : Nat)) ∧ ts.get 7 = some (.int .i64 k) ∧ ts.get 8 = some (.int .i64 i)) ?_ ⟨_, 0, s, rfl, ?_, rfl, by omega, ?_, ?_, ?_, ?_⟩
  · rintro m fr hh ⟨ts, i, v, rfl, gr, rfl, hi, h0, h1, h7, h8⟩
    refine WC.seq (WC.run ?_)
    (try simp only [wk, wl, wx, reduceLT, reduceEqDiff, Nat.reduceBEq, reduceIte, h7, h8])
    refine WC.seq ?_
    by_cases hlt : i < k
    · refine WC.cond (b := true) (by (try simp only [wk, wl, wx, reduceLT, reduceEqDiff, Nat.reduceBEq, reduceIte]); simp; omega) (WC.skip ?_)
      (try simp only [wk, wl, wx, reduceLT, reduceEqDiff, Nat.reduceBEq, reduceIte])
      refine WC.seq (WC.block (WC.seq (WC.run ?_)))
      (try simp only [wk, wl, wx, reduceLT, reduceEqDiff, Nat.reduceBEq, reduceIte, h0, h1, conv_int ty188 ty5 rfl, wrapu8_nat, u8_ofNat])
      refine sat_slice1 ty22 rfl ty5 rfl rfl rfl ?_
      intro h2 b2 n2 f2
      (try simp only [wk, wl, wx, reduceLT, reduceEqDiff, Nat.reduceBEq, reduceIte])
      refine app_ok (ys := [UInt8.ofNat (n / 256 ^ i)]) (gr.keep f2) ty22 (.inl ⟨_, rfl⟩) b2.sl.len b2.sl.cells (by simp [leB_length]; omega) ?_
      intro s' h3 gr3 _
      rw [List.append_assoc, ← leB_snoc] at gr3
      (try simp only [wk, wl, wx, reduceLT, reduceEqDiff, Nat.reduceBEq, reduceIte])
      refine WC.run ?_
      (try simp only [wk, wl, wx, reduceLT, reduceEqDiff, Nat.reduceBEq, reduceIte, h1, bin_shr (show (0 : Int) ≤ 8 by decide)])
      refine WC.run ?_
      (try simp only [wk, wl, wx, reduceLT, reduceEqDiff, Nat.reduceBEq, reduceIte, h8, bin_add])
      refine ⟨_, ?_, _, i+1, s', rfl, gr3, rfl, by omega, ?_⟩
      · omega
      (try simp only [wk, wl, wx, reduceLT, reduceEqDiff, Nat.reduceBEq, reduceIte, h7])
      refine ⟨trivial, ?_, trivial, ?_⟩
      · have e : (((n / 256 ^ i : Nat) : Int).fdiv (2 ^ (min (8 : Int).toNat IntKind.u64.bits))) = ((n / 256 ^ (i + 1) : Nat) : Int) := by
          have : ((2 : Int) ^ (min (8 : Int).toNat IntKind.u64.bits)) = ((256 : Nat) : Int) := by decide
          rw [this, fdiv_nat, Nat.pow_succ, Nat.div_div_eq_div_mul]
        rw [e]
      · rw [wrap64 (by omega) (by omega)]; rfl
    · refine WC.cond (b := false) (by (try simp only [wk, wl, wx, reduceLT, reduceEqDiff, Nat.reduceBEq, reduceIte]); simp; omega) (WC.exit ?_)
      have : i = k := by omega
      subst this
      (try simp only [wk, wl, wx, reduceLT, reduceEqDiff, Nat.reduceBEq, reduceIte])
      refine WC.seq (WC.run ?_)
      (try simp only [wk, wl, wx, reduceLT, reduceEqDiff, Nat.reduceBEq, reduceIte, h0])
      refine WC.ret ?_
      (try simp only [wk, wl, wx, reduceLT, reduceEqDiff, Nat.reduceBEq, reduceIte])
      exact gr
  · simpa [leB] using Grew.refl hb hlow
  all_goals (try simp only [wk, wl, wx, reduceLT, reduceEqDiff, Nat.reduceBEq, reduceIte])
  all_goals simp
end Go.Proofs.OP

set_option linter.unusedSimpArgs false
namespace Go.Proofs.OP
open Go Go.Ev
open Go.Proofs
open Nat (reduceLT reduceEqDiff)
variable {g : T (List V)}

abbrev Kept (h h' : H) : Prop := Fix (· < h.next) h h'

theorem le_ok {h : H} : WF (E g) 96 [] h fun v h' => v = .agg [] ∧ Kept h h' := by
  refine WF.enter fn96 rfl ?_
  ((repeat refine WC.seq ?_); refine WC.run ?_)
  (try simp only [wk, wl, wx, reduceLT, reduceEqDiff, Nat.reduceBEq, reduceIte])
  refine wop_alloc ty185 ?_
  intro h1 a1 n1 f1
  (try simp only [wk, wl, wx, reduceLT, reduceEqDiff, Nat.reduceBEq, reduceIte])
  ((repeat refine WC.seq ?_); refine WC.run ?_)
  (try simp only [wk, wl, wx, reduceLT, reduceEqDiff, Nat.reduceBEq, reduceIte])
  refine wop_alloc ty185 ?_
  intro h2 a2 n2 f2
  (try simp only [wk, wl, wx, reduceLT, reduceEqDiff, Nat.reduceBEq, reduceIte])
  ((repeat refine WC.seq ?_); refine WC.run ?_)
  (try simp only [wk, wl, wx, reduceLT, reduceEqDiff, Nat.reduceBEq, reduceIte, a2.agg ty185 rfl (o := 0) (Nat.le_refl 0)])
  refine sat_store (a1.fix f2 (by omega)) ty185 rfl (by decide) rfl ?_
  intro h3 a3 n3 f3
  (try simp only [wk, wl, wx, reduceLT, reduceEqDiff, Nat.reduceBEq, reduceIte])
  refine WC.ret ?_
  (try simp only [wk, wl, wx, reduceLT, reduceEqDiff, Nat.reduceBEq, reduceIte, a3.agg ty185 rfl (o := 0) (Nat.le_refl 0)])
  exact ⟨by trivial, by omega, fun c hc => by rw [f3.same c (by omega), f2.same c (by omega), f1.same c hc]⟩

theorem BufB.kept {h h' : H} {s : V} {xs : List UInt8} (b : BufB g h s xs) (l : In (· < h.next) s) (f : Kept h h') : GrewB g h s h' s xs := (Grew.refl b l).keep f

theorem app32_ok {h : H} {s : V} {xs : List UInt8} {n : Nat} (hb : BufB g h s xs) (hlow : In (· < h.next) s) (hn : n < 4294967296) (hlen : xs.length ≤ 2 ^ 39) :
    WF (E g) 98 [.agg [], s, .int .u32 n] h fun v h' => GrewB g h s h' v (xs ++ leB n 4) := by
  refine WF.enter fn98 rfl ?_
  ((repeat refine WC.seq ?_); refine WC.run ?_)
  (try simp only [wk, wl, wx, reduceLT, reduceEqDiff, Nat.reduceBEq, reduceIte])
  refine wop_box (v := .agg []) (by (try simp only [wk, wl, wx, reduceLT, reduceEqDiff, Nat.reduceBEq, reduceIte])) ?_
  intro h1 a1 n1 f1
  (try simp only [wk, wl, wx, reduceLT, reduceEqDiff, Nat.reduceBEq, reduceIte])
  ((repeat refine WC.seq ?_); refine WC.run ?_)
  (try simp only [wk, wl, wx, reduceLT, reduceEqDiff, Nat.reduceBEq, reduceIte, conv_int ty191 ty188 rfl])
  have gr := BufB.kept hb hlow f1
  rw [wrapu64_nat, Nat.mod_eq_of_lt (by omega)]
  refine (appended_ok (n := n) (k := 4) gr.buf gr.low (by omega) (by omega) hlen).mono fun v h2 g2 => ?_
  (try simp only [wk, wl, wx, reduceLT, reduceEqDiff, Nat.reduceBEq, reduceIte])
  refine WC.ret ?_
  (try simp only [wk, wl, wx, reduceLT, reduceEqDiff, Nat.reduceBEq, reduceIte])
  exact gr.trans g2

theorem app64_ok {h : H} {s : V} {xs : List UInt8} {n : Nat} (hb : BufB g h s xs) (hlow : In (· < h.next) s) (hn : n < 2 ^ 64) (hlen : xs.length ≤ 2 ^ 39) :
    WF (E g) 97 [.agg [], s, .int .u64 n] h fun v h' => GrewB g h s h' v (xs ++ leB n 8) := by
  refine WF.enter fn97 rfl ?_
  ((repeat refine WC.seq ?_); refine WC.run ?_)
  (try simp only [wk, wl, wx, reduceLT, reduceEqDiff, Nat.reduceBEq, reduceIte])
  refine wop_box (v := .agg []) (by (try simp only [wk, wl, wx, reduceLT, reduceEqDiff, Nat.reduceBEq, reduceIte])) ?_
  intro h1 a1 n1 f1
  (try simp only [wk, wl, wx, reduceLT, reduceEqDiff, Nat.reduceBEq, reduceIte])
  ((repeat refine WC.seq ?_); refine WC.run ?_)
  (try simp only [wk, wl, wx, reduceLT, reduceEqDiff, Nat.reduceBEq, reduceIte])
  have gr := BufB.kept hb hlow f1
  refine (appended_ok (n := n) (k := 8) gr.buf gr.low hn (by omega) hlen).mono fun v h2 g2 => ?_
  (try simp only [wk, wl, wx, reduceLT, reduceEqDiff, Nat.reduceBEq, reduceIte])
  refine WC.ret ?_
  (try simp only [wk, wl, wx, reduceLT, reduceEqDiff, Nat.reduceBEq, reduceIte])
  exact gr.trans g2

def leN : List UInt8 → Nat
  | [] => 0
  | c :: r => c.toNat + 256 * leN r
theorem leN_lt : ∀ (xs : List UInt8), leN xs < 256 ^ xs.length
  | [] => by simp [leN]
  | c :: r => by
    have := leN_lt r
    have hc : c.toNat < 256 := c.toNat_lt
    simp only [leN, List.length_cons, Nat.pow_succ]
    omega
theorem leN_drop {xs : List UInt8} {k : Nat} (hk : k < xs.length) : leN (xs.drop k) = xs[k].toNat + 256 * leN (xs.drop (k + 1)) := by
  rw [List.drop_eq_getElem_cons hk]; rfl

set_option maxRecDepth 10000 in
theorem or_byte {a c : Nat} (ha : a < 72057594037927936) (hc : c < 256) : IntKind.u64.wrap (BitVec.ofInt IntKind.u64.bits ((a * 256 : Nat) : Int) ||| BitVec.ofInt IntKind.u64.bits (c : Int)).toNat = ((a * 256 + c : Nat) : Int) := by
  have hlt : a * 256 + c < 18446744073709551616 := by omega
  have e1 : (BitVec.ofInt 64 ((a * 256 : Nat) : Int)).toNat = a * 256 := by
    rw [BitVec.ofInt_natCast, BitVec.toNat_ofNat, Nat.mod_eq_of_lt (show a * 256 < 2 ^ 64 by omega)]
  have e2 : (BitVec.ofInt 64 (c : Int)).toNat = c := by
    rw [BitVec.ofInt_natCast, BitVec.toNat_ofNat, Nat.mod_eq_of_lt (show c < 2 ^ 64 by omega)]
  have e3 : (BitVec.ofInt 64 ((a * 256 : Nat) : Int) ||| BitVec.ofInt 64 (c : Int)).toNat = a * 256 + c := by
    rw [BitVec.toNat_or, e1, e2]
    have := Nat.shiftLeft_add_eq_or_of_lt (a := a) (b := c) (i := 8) (by omega)
    rw [Nat.shiftLeft_eq] at this
    exact this.symm
  show IntKind.u64.wrap ((BitVec.ofInt 64 ((a * 256 : Nat) : Int) ||| BitVec.ofInt 64 (c : Int)).toNat : Nat) = _
  rw [e3, wrapu64_nat, Nat.mod_eq_of_lt hlt]

theorem get_ok {h : H} {s : V} {xs : List UInt8} {k : Nat} (hb : Bs g h s xs) (hk : k ≤ xs.length) (h8 : k ≤ 8) : WF (E g) 122 [s, .int .i64 k] h fun v h' => v = .int .u64 (leN (xs.take k) : Nat) ∧ h' = h := by
  refine WF.enter fn122 rfl ?_
  ((repeat refine WC.seq ?_); refine WC.run ?_)
  (try simp only [wk, wl, wx, reduceLT, reduceEqDiff, Nat.reduceBEq, reduceIte])
  ((repeat refine WC.seq ?_); refine WC.run ?_)
  (try simp only [wk, wl, wx, reduceLT, reduceEqDiff, Nat.reduceBEq, reduceIte])
  ((repeat refine WC.seq ?_); refine WC.run ?_)
  (try simp only [wk, wl, wx, reduceLT, reduceEqDiff, Nat.reduceBEq, reduceIte, bin_sub])
  rw [wrap64 (by omega) (by omega)]
  refine WC.block ?_
  refine WC.while (fun m fr hh => ∃ ts j, fr = ⟨ts, 22, [], 122, none⟩ ∧ hh = h ∧ m = j ∧ j ≤ k ∧ ts.get 0 = some s ∧ ts.get 6 = some (.int .i64 ((j : Int) - 1)) ∧ ts.get 5 = some (.int .u64 (leN ((xs.take k).drop j) : Nat))) ?_ ⟨_, k, rfl, rfl, rfl, Nat.le_refl _, ?_, ?_, ?_⟩
  · rintro m fr hh ⟨ts, j, rfl, rfl, rfl, hj, h0, h6, h5⟩
    ((repeat refine WC.seq ?_); refine WC.run ?_)
    (try simp only [wk, wl, wx, reduceLT, reduceEqDiff, Nat.reduceBEq, reduceIte, h6])
    (repeat refine WC.seq ?_)
    cases m with
    | succ j =>
      have e1 : ((j + 1 : Nat) : Int) - 1 = (j : Int) := by omega
      rw [e1] at h6
      refine WC.cond (b := true) (by (try simp only [wk, wl, wx, reduceLT, reduceEqDiff, Nat.reduceBEq, reduceIte]); (try simp); (try omega)) (WC.skip ?_)
      (try simp only [wk, wl, wx, reduceLT, reduceEqDiff, Nat.reduceBEq, reduceIte])
      obtain ⟨p, p1, p2⟩ := hb.at (show j < xs.length by omega)
      (repeat refine WC.seq ?_)
      refine WC.block ?_
      ((repeat refine WC.seq ?_); refine WC.run ?_)
      (try simp only [wk, wl, wx, reduceLT, reduceEqDiff, Nat.reduceBEq, reduceIte, h0, h6, h5, p1, p2, bin_shl (show (0 : Int) ≤ 8 by decide), u8, conv_int ty5 ty188 rfl, bin_or])
      refine WC.run ?_
      (try simp only [wk, wl, wx, reduceLT, reduceEqDiff, Nat.reduceBEq, reduceIte, h6, bin_sub])
      have hjl : j < (xs.take k).length := by simp; omega
      have hd := leN_drop hjl
      have hg : (xs.take k)[j] = xs[j] := List.getElem_take
      have hlt := leN_lt ((xs.take k).drop (j + 1))
      have hlen : ((xs.take k).drop (j + 1)).length ≤ 7 := by simp; omega
      have hpow : 256 ^ ((xs.take k).drop (j + 1)).length ≤ 256 ^ 7 := Nat.pow_le_pow_right (by omega) hlen
      have hc : xs[j].toNat < 256 := xs[j].toNat_lt
      refine ⟨j, by omega, _, j, rfl, trivial, rfl, by omega, ?_⟩
      (try simp only [wk, wl, wx, reduceLT, reduceEqDiff, Nat.reduceBEq, reduceIte, h0])
      refine ⟨trivial, ?_, ?_⟩
      · rw [wrap64 (by omega) (by omega)]
      · have e2 : IntKind.u64.wrap ((leN ((xs.take k).drop (j + 1)) : Nat) * 2 ^ (min (8 : Int).toNat IntKind.u64.bits) : Int) = ((leN ((xs.take k).drop (j + 1)) * 256 : Nat) : Int) := by
          have : ((2 : Int) ^ (min (8 : Int).toNat IntKind.u64.bits)) = ((256 : Nat) : Int) := by decide
          rw [this, ← Int.natCast_mul, wrapu64_nat, Nat.mod_eq_of_lt (by omega)]
        have e3 : IntKind.u64.wrap (xs[j].toNat : Int) = (xs[j].toNat : Int) := by rw [wrapu64_nat, Nat.mod_eq_of_lt (by omega)]
        rw [e2, e3, or_byte (by omega) hc, hd, hg]
        congr 3
        omega
    | zero =>
      refine WC.cond (b := false) (by (try simp only [wk, wl, wx, reduceLT, reduceEqDiff, Nat.reduceBEq, reduceIte]); (try simp); (try omega)) (WC.exit ?_)
      (try simp only [wk, wl, wx, reduceLT, reduceEqDiff, Nat.reduceBEq, reduceIte])
      ((repeat refine WC.seq ?_); refine WC.run ?_)
      (try simp only [wk, wl, wx, reduceLT, reduceEqDiff, Nat.reduceBEq, reduceIte, h5])
      refine WC.ret ?_
      (try simp only [wk, wl, wx, reduceLT, reduceEqDiff, Nat.reduceBEq, reduceIte])
      exact ⟨by trivial, by trivial⟩
  all_goals (try simp only [wk, wl, wx, reduceLT, reduceEqDiff, Nat.reduceBEq, reduceIte])
  · simp [leN]

theorem u64_ok {h : H} {s : V} {xs : List UInt8} (hb : Bs g h s xs) (hs : In (· < h.next) s) (hk : 8 ≤ xs.length) : WF (E g) 101 [.agg [], s] h fun v h' => v = .int .u64 (leN (xs.take 8) : Nat) ∧ Kept h h' := by
  refine WF.enter fn101 rfl ?_
  ((repeat refine WC.seq ?_); refine WC.run ?_)
  (try simp only [wk, wl, wx, reduceLT, reduceEqDiff, Nat.reduceBEq, reduceIte])
  refine wop_box (v := .agg []) (by (try simp only [wk, wl, wx, reduceLT, reduceEqDiff, Nat.reduceBEq, reduceIte])) ?_
  intro h1 a1 n1 f1
  (try simp only [wk, wl, wx, reduceLT, reduceEqDiff, Nat.reduceBEq, reduceIte])
  ((repeat refine WC.seq ?_); refine WC.run ?_)
  (try simp only [wk, wl, wx, reduceLT, reduceEqDiff, Nat.reduceBEq, reduceIte])
  refine (get_ok (k := 8) (hb.fix hs f1) hk (by omega)).mono fun v h2 ⟨e1, e2⟩ => ?_
  subst e1 e2
  (try simp only [wk, wl, wx, reduceLT, reduceEqDiff, Nat.reduceBEq, reduceIte])
  refine WC.ret ?_
  (try simp only [wk, wl, wx, reduceLT, reduceEqDiff, Nat.reduceBEq, reduceIte])
  exact ⟨by trivial, f1⟩
theorem u32_ok {h : H} {s : V} {xs : List UInt8} (hb : Bs g h s xs) (hs : In (· < h.next) s) (hk : 4 ≤ xs.length) : WF (E g) 100 [.agg [], s] h fun v h' => v = .int .u32 (leN (xs.take 4) : Nat) ∧ Kept h h' := by
  refine WF.enter fn100 rfl ?_
  ((repeat refine WC.seq ?_); refine WC.run ?_)
  (try simp only [wk, wl, wx, reduceLT, reduceEqDiff, Nat.reduceBEq, reduceIte])
  refine wop_box (v := .agg []) (by (try simp only [wk, wl, wx, reduceLT, reduceEqDiff, Nat.reduceBEq, reduceIte])) ?_
  intro h1 a1 n1 f1
  (try simp only [wk, wl, wx, reduceLT, reduceEqDiff, Nat.reduceBEq, reduceIte])
  ((repeat refine WC.seq ?_); refine WC.run ?_)
  (try simp only [wk, wl, wx, reduceLT, reduceEqDiff, Nat.reduceBEq, reduceIte])
  refine (get_ok (k := 4) (hb.fix hs f1) hk (by omega)).mono fun v h2 ⟨e1, e2⟩ => ?_
  subst e1 e2
  (try simp only [wk, wl, wx, reduceLT, reduceEqDiff, Nat.reduceBEq, reduceIte, conv_int ty188 ty191 rfl])
  refine WC.ret ?_
  (try simp only [wk, wl, wx, reduceLT, reduceEqDiff, Nat.reduceBEq, reduceIte])
  refine ⟨?_, f1⟩
  have := leN_lt (xs.take 4)
  have hl : (xs.take 4).length = 4 := by simp; omega
  rw [hl] at this
  rw [wrapu32_nat, Nat.mod_eq_of_lt (by omega)]
end Go.Proofs.OP

namespace Go.Proofs.OP
open Go Go.Ev
def pl49_3 : List (List Stp) := [[⟨0, false, false, []⟩, ⟨2, false, false, []⟩, ⟨3, false, false, []⟩, ⟨4, false, false, []⟩, ⟨5, false, true, []⟩, ⟨6, false, false, []⟩, ⟨7, false, true, []⟩, ⟨1, true, false, [7, 5]⟩, ⟨8, true, false, []⟩, ⟨9, false, false, []⟩, ⟨10, false, false, []⟩, ⟨11, true, false, []⟩]]
def pl51_1 : List (List Stp) := [[⟨1, false, false, []⟩, ⟨2, false, false, []⟩, ⟨3, false, false, []⟩, ⟨4, false, true, []⟩, ⟨5, false, false, []⟩, ⟨6, false, false, []⟩, ⟨7, false, false, []⟩, ⟨8, false, true, []⟩, ⟨0, true, false, [8, 4]⟩, ⟨9, true, false, [4]⟩, ⟨10, true, false, []⟩, ⟨11, true, false, []⟩]]
def pl56_2 : List (List Stp) := [[⟨0, false, false, []⟩, ⟨1, false, true, []⟩, ⟨2, false, false, []⟩, ⟨4, false, false, []⟩, ⟨5, false, false, []⟩, ⟨6, false, false, []⟩, ⟨8, false, false, []⟩, ⟨9, false, false, []⟩, ⟨10, false, false, []⟩, ⟨3, true, false, []⟩, ⟨7, true, false, []⟩, ⟨11, true, false, []⟩, ⟨12, false, true, []⟩, ⟨13, false, false, []⟩]]
def pl56_4 : List (List Stp) := [[⟨0, false, false, []⟩, ⟨1, false, false, []⟩, ⟨2, false, false, []⟩, ⟨3, false, true, []⟩, ⟨4, false, false, []⟩, ⟨5, false, false, []⟩, ⟨6, false, true, []⟩, ⟨7, false, true, []⟩]]
def pl61_4 : List (List Stp) := [[⟨1, false, false, []⟩, ⟨2, false, false, []⟩, ⟨3, false, false, []⟩, ⟨4, false, true, []⟩, ⟨0, true, false, [4]⟩, ⟨5, true, false, []⟩, ⟨6, false, true, []⟩, ⟨7, true, false, []⟩]]
def pl64_6 : List (List Stp) := [[⟨0, false, false, []⟩, ⟨1, false, false, []⟩, ⟨2, false, false, []⟩, ⟨3, false, true, []⟩, ⟨4, false, false, []⟩, ⟨5, false, false, []⟩, ⟨6, false, false, []⟩, ⟨7, false, true, []⟩, ⟨8, false, true, []⟩]]
def pl65_1 : List (List Stp) := [[⟨0, false, false, []⟩, ⟨1, false, true, []⟩, ⟨2, false, true, []⟩, ⟨3, false, false, []⟩, ⟨4, false, false, []⟩, ⟨5, false, false, []⟩, ⟨6, false, true, []⟩, ⟨7, false, true, []⟩, ⟨8, false, false, []⟩, ⟨10, false, false, []⟩, ⟨11, false, false, []⟩, ⟨12, false, true, []⟩, ⟨13, false, true, []⟩, ⟨14, false, false, []⟩, ⟨9, true, false, [13, 12]⟩, ⟨15, true, false, []⟩, ⟨16, false, true, []⟩, ⟨17, false, false, []⟩]]
def pl69_6 : List (List Stp) := [[⟨0, false, false, []⟩, ⟨1, false, false, []⟩, ⟨2, false, false, []⟩, ⟨3, false, true, []⟩, ⟨4, false, false, []⟩, ⟨5, false, false, []⟩, ⟨6, false, false, []⟩, ⟨7, false, true, []⟩, ⟨8, false, true, []⟩]]
end Go.Proofs.OP
