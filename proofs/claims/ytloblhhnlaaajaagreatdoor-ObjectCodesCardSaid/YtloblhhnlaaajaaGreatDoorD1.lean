/- Walks: the reference's get, numbers, texts. -/
import Derived.Test.YtloblhhnlaaajaaGreatDoorB13
import Derived.Test.YtloblhhnlaaajaaGreatDoorC16
import Derived.Test.YtloblhhnlaaajaaGreatDoorC22
set_option linter.unusedVariables false
set_option linter.unusedSimpArgs false
set_option linter.defProp false
set_option linter.unusedSimpArgs false
namespace Go.Proofs.OP
open Go Go.Ev
open Go.Proofs
open Nat (reduceLT reduceEqDiff)
variable {g : T (List V)}

theorem rget_ok {h : H} {s : V} {xs : List UInt8} (hb : Bs g h s xs) (h8 : xs.length ≤ 8) : WF (E g) 102 [s] h fun v h' => v = .int .i64 (IntKind.i64.wrap (leN xs : Nat)) ∧ h' = h := by
  refine WF.enter fn102 rfl ?_
  ((repeat refine WC.seq ?_); refine WC.run ?_)
  (try simp only [wk, wl, wx, reduceLT, reduceEqDiff, Nat.reduceBEq, reduceIte])
  ((repeat refine WC.seq ?_); refine WC.run ?_)
  (try simp only [wk, wl, wx, reduceLT, reduceEqDiff, Nat.reduceBEq, reduceIte])
  ((repeat refine WC.seq ?_); refine WC.run ?_)
  (try simp only [wk, wl, wx, reduceLT, reduceEqDiff, Nat.reduceBEq, reduceIte, bin_sub, hb.len])
  rw [wrap64 (by omega) (by omega)]
  (repeat refine WC.seq ?_)
  refine WC.block ?_
  refine WC.while (fun m fr hh => ∃ ts j, fr = ⟨ts, 22, [], 102, none⟩ ∧ hh = h ∧ m = j ∧ j ≤ xs.length ∧ ts.get 0 = some s ∧ ts.get 4 = some (.int .i64 ((j : Int) - 1)) ∧ ts.get 3 = some (.int .u64 (leN (xs.drop j) : Nat))) ?_ ⟨_, xs.length, rfl, rfl, rfl, Nat.le_refl _, ?_, ?_, ?_⟩
  · rintro m fr hh ⟨ts, j, rfl, rfl, rfl, hj, h0, h4, h3⟩
    ((repeat refine WC.seq ?_); refine WC.run ?_)
    (try simp only [wk, wl, wx, reduceLT, reduceEqDiff, Nat.reduceBEq, reduceIte, h4])
    (repeat refine WC.seq ?_)
    cases m with
    | succ j =>
      have e1 : ((j + 1 : Nat) : Int) - 1 = (j : Int) := by omega
      rw [e1] at h4
      refine WC.cond (b := true) (by (try simp only [wk, wl, wx, reduceLT, reduceEqDiff, Nat.reduceBEq, reduceIte]); (try simp); (try omega)) (WC.skip ?_)
      (try simp only [wk, wl, wx, reduceLT, reduceEqDiff, Nat.reduceBEq, reduceIte])
      obtain ⟨p, p1, p2⟩ := hb.at (show j < xs.length by omega)
      (repeat refine WC.seq ?_)
      refine WC.block ?_
      ((repeat refine WC.seq ?_); refine WC.run ?_)
      (try simp only [wk, wl, wx, reduceLT, reduceEqDiff, Nat.reduceBEq, reduceIte, h0, h4, h3, p1, p2, bin_mul, bin_add, u8, conv_int ty5 ty188 rfl])
      ((repeat refine WC.seq ?_); refine WC.run ?_)
      (try simp only [wk, wl, wx, reduceLT, reduceEqDiff, Nat.reduceBEq, reduceIte, h4, bin_sub])
      have hd := leN_drop (show j < xs.length by omega)
      have hlt := leN_lt (xs.drop (j + 1))
      have hlen : (xs.drop (j + 1)).length ≤ 7 := by simp; omega
      have hpow : 256 ^ (xs.drop (j + 1)).length ≤ 256 ^ 7 := Nat.pow_le_pow_right (by omega) hlen
      have hc : xs[j].toNat < 256 := xs[j].toNat_lt
      refine ⟨j, by omega, _, j, rfl, trivial, rfl, by omega, ?_⟩
      (try simp only [wk, wl, wx, reduceLT, reduceEqDiff, Nat.reduceBEq, reduceIte, h0])
      refine ⟨trivial, ?_, ?_⟩
      · rw [wrap64 (by omega) (by omega)]
      · have e2 : IntKind.u64.wrap ((leN (xs.drop (j + 1)) : Nat) * 256 : Int) = ((leN (xs.drop (j + 1)) * 256 : Nat) : Int) := by
          have : ((256 : Int)) = ((256 : Nat) : Int) := rfl
          rw [this, ← Int.natCast_mul, wrapu64_nat, Nat.mod_eq_of_lt (by omega)]
        have e3 : IntKind.u64.wrap (xs[j].toNat : Int) = (xs[j].toNat : Int) := by rw [wrapu64_nat, Nat.mod_eq_of_lt (by omega)]
        rw [e2, e3, ← Int.natCast_add, wrapu64_nat, Nat.mod_eq_of_lt (by omega), hd]
        congr 3
        omega
    | zero =>
      refine WC.cond (b := false) (by (try simp only [wk, wl, wx, reduceLT, reduceEqDiff, Nat.reduceBEq, reduceIte]); (try simp); (try omega)) (WC.exit ?_)
      (try simp only [wk, wl, wx, reduceLT, reduceEqDiff, Nat.reduceBEq, reduceIte])
      ((repeat refine WC.seq ?_); refine WC.run ?_)
      (try simp only [wk, wl, wx, reduceLT, reduceEqDiff, Nat.reduceBEq, reduceIte, h3, conv_int ty188 ty2 rfl])
      refine WC.ret ?_
      (try simp only [wk, wl, wx, reduceLT, reduceEqDiff, Nat.reduceBEq, reduceIte])
      exact ⟨by simp, by trivial⟩
  all_goals (try simp only [wk, wl, wx, reduceLT, reduceEqDiff, Nat.reduceBEq, reduceIte])
  all_goals simp [leN]


theorem numB_one (n : Int) : numB [n] = leB (U n) 8 := by simp [numB]
theorem wnum_ok {h : H} {s : V} {xs : List UInt8} {n : Int} (hb : BufB g h s xs) (hlow : In (· < h.next) s) (hlen : xs.length ≤ 2 ^ 39) :
    WF (E g) 53 [s, .int .i64 n] h fun v h' => GrewB g h s h' v (xs ++ numB [n]) := by
  refine WF.enter fn53 rfl ?_
  ((repeat refine WC.seq ?_); refine WC.run ?_)
  (try simp only [wk, wl, wx, reduceLT, reduceEqDiff, Nat.reduceBEq, reduceIte])
  ((repeat refine WC.seq ?_); refine WC.run ?_)
  (try simp only [wk, wl, wx, reduceLT, reduceEqDiff, Nat.reduceBEq, reduceIte])
  refine (put_ok (k := 8) hb hlow (by omega) hlen).mono fun v h' gr => ?_
  (try simp only [wk, wl, wx, reduceLT, reduceEqDiff, Nat.reduceBEq, reduceIte])
  refine WC.ret ?_
  (try simp only [wk, wl, wx, reduceLT, reduceEqDiff, Nat.reduceBEq, reduceIte])
  rw [numB_one]; exact gr
theorem wtxt_ok {h : H} {s : V} {xs t : List UInt8} (hb : BufB g h s xs) (hlow : In (· < h.next) s) (hlen : xs.length ≤ 2 ^ 38) (ht : t.length ≤ 2 ^ 38) :
    WF (E g) 52 [s, .str t] h fun v h' => GrewB g h s h' v (xs ++ txtB [t]) := by
  refine WF.enter fn52 rfl ?_
  ((repeat refine WC.seq ?_); refine WC.run ?_)
  (try simp only [wk, wl, wx, reduceLT, reduceEqDiff, Nat.reduceBEq, reduceIte])
  ((repeat refine WC.seq ?_); refine WC.run ?_)
  (try simp only [wk, wl, wx, reduceLT, reduceEqDiff, Nat.reduceBEq, reduceIte, len_str])
  refine (wnum_ok (n := (t.length : Int)) hb hlow (by omega)).mono fun v h1 gr => ?_
  (try simp only [wk, wl, wx, reduceLT, reduceEqDiff, Nat.reduceBEq, reduceIte])
  refine app_ok (ys := t) gr ty9 (.inr rfl) rfl ?_ (by simp [numB_length]; omega) ?_
  · simp only [srcCells, show Nat.beq 1 1 = true from rfl, cond_true, List.take_length]; rfl
  · intro s' h2 gr2 _
    (try simp only [wk, wl, wx, reduceLT, reduceEqDiff, Nat.reduceBEq, reduceIte])
    refine WC.ret ?_
    (try simp only [wk, wl, wx, reduceLT, reduceEqDiff, Nat.reduceBEq, reduceIte])
    have e : xs ++ numB [(t.length : Int)] ++ t = xs ++ txtB [t] := by simp [numB_one, txtB, U_nat (show t.length < 18446744073709551616 by omega)]
    rw [← e]; exact gr2
end Go.Proofs.OP
