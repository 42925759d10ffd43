/- Walks: the reference's put and get, names. -/
import Derived.Test.YtloblhhnlaaajaaDoorB10
import Derived.Test.YtloblhhnlaaajaaDoorC1
set_option linter.unusedVariables false
set_option linter.unusedSimpArgs false
set_option linter.defProp false
set_option linter.unusedSimpArgs false
namespace Go.Proofs.OP
open Go Go.Ev
open Go.Proofs
variable {g : T (List V)}

/-- A number as 64 bits. -/
def U (n : Int) : Nat := (n % 18446744073709551616).toNat
theorem U_lt (n : Int) : U n < 2 ^ 64 := by unfold U; omega
theorem wrapu64_U (n : Int) : IntKind.u64.wrap n = (U n : Int) := by
  unfold IntKind.wrap U
  simp only [IntKind.bits, IntKind.signed, Bool.false_and, Bool.false_eq_true, if_false]
  omega
theorem U_nat {n : Nat} (h : n < 18446744073709551616) : U n = n := by unfold U; omega

/-- ref.put -/
theorem put_ok {h : H} {s : V} {xs : List UInt8} {n : Int} {k : Nat} (hb : BufB g h s xs) (hlow : In (· < h.next) s) (hk : k ≤ 8) (hlen : xs.length ≤ 2 ^ 39) :
    WF (E g) 48 [s, .int .i64 n, .int .i64 k] h fun v h' => GrewB g h s h' v (xs ++ leB (U n) k) := by
  refine WF.enter fn48 rfl ?_
  ((repeat refine WC.seq ?_); refine WC.run ?_)
  (try simp only [wk, wl, Then, Blk, pickV, Nat.reduceLT, Nat.reduceEqDiff, Nat.reduceBEq, reduceIte, isConst, nilCheckV, extractV, wantJ, nth])
  ((repeat refine WC.seq ?_); refine WC.run ?_)
  (try simp only [wk, wl, Then, Blk, pickV, Nat.reduceLT, Nat.reduceEqDiff, Nat.reduceBEq, reduceIte, isConst, nilCheckV, extractV, wantJ, nth, conv_int ty2 ty194 rfl, wrapu64_U])
  ((repeat refine WC.seq ?_); refine WC.run ?_)
  (try simp only [wk, wl, Then, Blk, pickV, Nat.reduceLT, Nat.reduceEqDiff, Nat.reduceBEq, reduceIte, isConst, nilCheckV, extractV, wantJ, nth])
  (repeat refine WC.seq ?_)
  refine WC.block ?_
  refine WC.while (fun m fr hh => ∃ ts i v, fr = ⟨ts, 24, [], 48, none⟩ ∧ GrewB g h s hh v (xs ++ leB (U n) i) ∧ m = k - i ∧ i ≤ k ∧ ts.get 0 = some v ∧ ts.get 2 = some (.int .i64 k) ∧ ts.get 7 = some (.int .u64 (U n / 256 ^ i : Nat)) ∧ ts.get 8 = some (.int .i64 i)) ?_ ⟨_, 0, s, rfl, ?_, rfl, by omega, ?_, ?_, ?_, ?_⟩
  · rintro m fr hh ⟨ts, i, v, rfl, gr, rfl, hi, h0, h2, h7, h8⟩
    ((repeat refine WC.seq ?_); refine WC.run ?_)
    (try simp only [wk, wl, Then, Blk, pickV, Nat.reduceLT, Nat.reduceEqDiff, Nat.reduceBEq, reduceIte, isConst, nilCheckV, extractV, wantJ, nth, h2, h8])
    (repeat refine WC.seq ?_)
    by_cases hlt : i < k
    · refine WC.cond (b := true) (by (try simp only [wk, wl, Then, Blk, pickV, Nat.reduceLT, Nat.reduceEqDiff, Nat.reduceBEq, reduceIte, isConst, nilCheckV, extractV, wantJ, nth]); (try simp); (try omega)) (WC.skip ?_)
      (try simp only [wk, wl, Then, Blk, pickV, Nat.reduceLT, Nat.reduceEqDiff, Nat.reduceBEq, reduceIte, isConst, nilCheckV, extractV, wantJ, nth])
      (repeat refine WC.seq ?_)
      refine WC.block ?_
      ((repeat refine WC.seq ?_); refine WC.run ?_)
      (try simp only [wk, wl, Then, Blk, pickV, Nat.reduceLT, Nat.reduceEqDiff, Nat.reduceBEq, reduceIte, isConst, nilCheckV, extractV, wantJ, nth, h0, h7, conv_int ty194 ty5 rfl, wrapu8_nat, u8_ofNat])
      refine sat_slice1 ty27 rfl ty5 rfl rfl rfl ?_
      intro h2' b2 n2 f2
      (try simp only [wk, wl, Then, Blk, pickV, Nat.reduceLT, Nat.reduceEqDiff, Nat.reduceBEq, reduceIte, isConst, nilCheckV, extractV, wantJ, nth])
      refine app_ok (ys := [UInt8.ofNat (U n / 256 ^ i)]) (gr.keep f2) ty27 (.inl ⟨_, rfl⟩) b2.sl.len b2.sl.cells (by simp [leB_length]; omega) ?_
      intro s' h3 gr3 _
      rw [List.append_assoc, ← leB_snoc] at gr3
      (try simp only [wk, wl, Then, Blk, pickV, Nat.reduceLT, Nat.reduceEqDiff, Nat.reduceBEq, reduceIte, isConst, nilCheckV, extractV, wantJ, nth])
      ((repeat refine WC.seq ?_); refine WC.run ?_)
      (try simp only [wk, wl, Then, Blk, pickV, Nat.reduceLT, Nat.reduceEqDiff, Nat.reduceBEq, reduceIte, isConst, nilCheckV, extractV, wantJ, nth, h7, bin_quo (show (256 : Int) ≠ 0 by decide)])
      ((repeat refine WC.seq ?_); refine WC.run ?_)
      (try simp only [wk, wl, Then, Blk, pickV, Nat.reduceLT, Nat.reduceEqDiff, Nat.reduceBEq, reduceIte, isConst, nilCheckV, extractV, wantJ, nth, h8, bin_add])
      refine ⟨_, ?_, _, i+1, s', rfl, gr3, rfl, by omega, ?_⟩
      · omega
      (try simp only [wk, wl, Then, Blk, pickV, Nat.reduceLT, Nat.reduceEqDiff, Nat.reduceBEq, reduceIte, isConst, nilCheckV, extractV, wantJ, nth, h2])
      refine ⟨trivial, trivial, ?_, ?_⟩
      · have hU := U_lt n
        have h1 : U n / 256 ^ (i + 1) ≤ U n := Nat.div_le_self _ _
        have e : IntKind.u64.wrap (((U n / 256 ^ i : Nat) : Int).tdiv 256) = ((U n / 256 ^ (i + 1) : Nat) : Int) := by
          have : ((256 : Int)) = ((256 : Nat) : Int) := rfl
          rw [this, tdiv_nat, Nat.div_div_eq_div_mul, ← Nat.pow_succ, Nat.succ_eq_add_one, wrapu64_nat, Nat.mod_eq_of_lt (by omega)]
        rw [e]
      · rw [wrap64 (by omega) (by omega)]; rfl
    · refine WC.cond (b := false) (by (try simp only [wk, wl, Then, Blk, pickV, Nat.reduceLT, Nat.reduceEqDiff, Nat.reduceBEq, reduceIte, isConst, nilCheckV, extractV, wantJ, nth]); (try simp); (try omega)) (WC.exit ?_)
      have : i = k := by omega
      subst this
      (try simp only [wk, wl, Then, Blk, pickV, Nat.reduceLT, Nat.reduceEqDiff, Nat.reduceBEq, reduceIte, isConst, nilCheckV, extractV, wantJ, nth])
      ((repeat refine WC.seq ?_); refine WC.run ?_)
      (try simp only [wk, wl, Then, Blk, pickV, Nat.reduceLT, Nat.reduceEqDiff, Nat.reduceBEq, reduceIte, isConst, nilCheckV, extractV, wantJ, nth, h0])
      refine WC.ret ?_
      (try simp only [wk, wl, Then, Blk, pickV, Nat.reduceLT, Nat.reduceEqDiff, Nat.reduceBEq, reduceIte, isConst, nilCheckV, extractV, wantJ, nth])
      exact gr
  · simpa [leB] using Grew.refl hb hlow
  all_goals (try simp only [wk, wl, Then, Blk, pickV, Nat.reduceLT, Nat.reduceEqDiff, Nat.reduceBEq, reduceIte, isConst, nilCheckV, extractV, wantJ, nth])
  all_goals simp

theorem bin_seql {E : Env} {h : H} {c : Bool} {t : Nat} {a b : List UInt8} : binV E h c .eql t (.str a) (.str b) = some (.bool (a == b)) := rfl
theorem bin_sneq {E : Env} {h : H} {c : Bool} {t : Nat} {a b : List UInt8} : binV E h c .neq t (.str a) (.str b) = some (.bool (!(a == b))) := rfl
theorem len_str {h : H} {s : List UInt8} : lenB (E g) h 9 (.str s) = some (.int .i64 s.length) := by
  simp only [lenB, ty9]

/-- The error of a name. -/
def nameE (s : List UInt8) : Int := if s = [] then 9 else if 64 < s.length then 21 else 0

/-- ref.named -/
theorem rnamed_ok {h : H} {s : List UInt8} : WF (E g) 62 [.str s] h fun v h' => v = .int .i64 (nameE s) ∧ h' = h := by
  refine WF.enter fn62 rfl ?_
  ((repeat refine WC.seq ?_); refine WC.run ?_)
  (try simp only [wk, wl, Then, Blk, pickV, Nat.reduceLT, Nat.reduceEqDiff, Nat.reduceBEq, reduceIte, isConst, nilCheckV, extractV, wantJ, nth])
  ((repeat refine WC.seq ?_); refine WC.run ?_)
  (try simp only [wk, wl, Then, Blk, pickV, Nat.reduceLT, Nat.reduceEqDiff, Nat.reduceBEq, reduceIte, isConst, nilCheckV, extractV, wantJ, nth, bin_seql])
  (repeat refine WC.seq ?_)
  cases s with
  | nil =>
    refine WC.cond (b := true) (by (try simp only [wk, wl, Then, Blk, pickV, Nat.reduceLT, Nat.reduceEqDiff, Nat.reduceBEq, reduceIte, isConst, nilCheckV, extractV, wantJ, nth]); (try simp); (try omega)) ?_
    ((repeat refine WC.seq ?_); refine WC.run ?_)
    (try simp only [wk, wl, Then, Blk, pickV, Nat.reduceLT, Nat.reduceEqDiff, Nat.reduceBEq, reduceIte, isConst, nilCheckV, extractV, wantJ, nth])
    refine WC.ret ?_
    (try simp only [wk, wl, Then, Blk, pickV, Nat.reduceLT, Nat.reduceEqDiff, Nat.reduceBEq, reduceIte, isConst, nilCheckV, extractV, wantJ, nth])
    exact ⟨rfl, by trivial⟩
  | cons c r =>
    refine WC.cond (b := false) (by (try simp only [wk, wl, Then, Blk, pickV, Nat.reduceLT, Nat.reduceEqDiff, Nat.reduceBEq, reduceIte, isConst, nilCheckV, extractV, wantJ, nth]); (try simp); (try omega)) (WC.skip ?_)
    (try simp only [wk, wl, Then, Blk, pickV, Nat.reduceLT, Nat.reduceEqDiff, Nat.reduceBEq, reduceIte, isConst, nilCheckV, extractV, wantJ, nth])
    ((repeat refine WC.seq ?_); refine WC.run ?_)
    (try simp only [wk, wl, Then, Blk, pickV, Nat.reduceLT, Nat.reduceEqDiff, Nat.reduceBEq, reduceIte, isConst, nilCheckV, extractV, wantJ, nth, len_str])
    (repeat refine WC.seq ?_)
    by_cases hl : 64 < r.length + 1
    · refine WC.cond (b := true) (by (try simp only [wk, wl, Then, Blk, pickV, Nat.reduceLT, Nat.reduceEqDiff, Nat.reduceBEq, reduceIte, isConst, nilCheckV, extractV, wantJ, nth]); (try simp); (try omega)) ?_
      ((repeat refine WC.seq ?_); refine WC.run ?_)
      (try simp only [wk, wl, Then, Blk, pickV, Nat.reduceLT, Nat.reduceEqDiff, Nat.reduceBEq, reduceIte, isConst, nilCheckV, extractV, wantJ, nth])
      refine WC.ret ?_
      (try simp only [wk, wl, Then, Blk, pickV, Nat.reduceLT, Nat.reduceEqDiff, Nat.reduceBEq, reduceIte, isConst, nilCheckV, extractV, wantJ, nth])
      exact ⟨by rw [nameE, if_neg (by simp), if_pos (by simpa using hl)], by trivial⟩
    · refine WC.cond (b := false) (by (try simp only [wk, wl, Then, Blk, pickV, Nat.reduceLT, Nat.reduceEqDiff, Nat.reduceBEq, reduceIte, isConst, nilCheckV, extractV, wantJ, nth]); (try simp); (try omega)) (WC.skip ?_)
      (try simp only [wk, wl, Then, Blk, pickV, Nat.reduceLT, Nat.reduceEqDiff, Nat.reduceBEq, reduceIte, isConst, nilCheckV, extractV, wantJ, nth])
      ((repeat refine WC.seq ?_); refine WC.run ?_)
      (try simp only [wk, wl, Then, Blk, pickV, Nat.reduceLT, Nat.reduceEqDiff, Nat.reduceBEq, reduceIte, isConst, nilCheckV, extractV, wantJ, nth])
      refine WC.ret ?_
      (try simp only [wk, wl, Then, Blk, pickV, Nat.reduceLT, Nat.reduceEqDiff, Nat.reduceBEq, reduceIte, isConst, nilCheckV, extractV, wantJ, nth])
      exact ⟨by rw [nameE, if_neg (by simp), if_neg (by simpa using hl)], by trivial⟩
end Go.Proofs.OP
