/- Walks: Clone, Equal, the reference's put and get, names. -/
import Derived.Test.YtloblhhnlaaajaaGreatDoorW15
import Derived.Test.YtloblhhnlaaajaaGreatDoorW14
import Derived.Test.YtloblhhnlaaajaaGreatDoorW17
set_option linter.unusedVariables false
set_option linter.unusedSimpArgs false
set_option linter.defProp false
set_option linter.unusedSimpArgs false
namespace Go.Proofs.OP
open Go Go.Ev
open Go.Proofs
open Nat (reduceLT reduceEqDiff)
variable {g : T (List V)}

def isNils : V → Bool
  | .nils => true
  | _ => false
theorem eq_nils {E : Env} {h h' : H} {c : Bool} {t e sz n : Nat} {s : V} {vs : List V} {i : TI} (a : Sl E h' sz s n vs) (ht : E.tys.get t = some i) (hd : i.desc = .slice e) : binV E h c .eql t s .nils = some (.bool (isNils s)) := by
  have hl := a.len
  unfold lenV at hl
  split at hl
  · simp [binV, eqV, ht, hd, isNils]
  · simp [binV, eqV, ht, hd, isNils]
  · simp [binV, eqV, ht, hd, isNils]
  · exact absurd rfl (a.slice _)
  · cases hl
theorem isNils_empty {E : Env} {h : H} {sz n : Nat} {s : V} {vs : List V} (a : Sl E h sz s n vs) (hn : isNils s = true) : s = .nils ∧ n = 0 ∧ vs = [] := by
  unfold isNils at hn
  split at hn
  · have hl := a.len
    simp only [lenV] at hl; injection hl with hl; subst hl
    have := a.size
    exact ⟨rfl, rfl, by simpa using this⟩
  · cases hn

abbrev OwnB (g : T (List V)) (h h' : H) (v : V) (xs : List UInt8) : Prop := BufB g h' v xs ∧ In (· < h'.next) v ∧ Kept h h' ∧ In (fun b => h.next ≤ b) v

theorem clone_ok {h : H} {s : V} {xs : List UInt8} (hb : Bs g h s xs) (hs : In (· < h.next) s) (hlen : xs.length ≤ 2 ^ 39) : WF (E g) 84 [s] h fun v h' => OwnB g h h' v xs := by
  refine WF.enter fn84 rfl ?_
  ((repeat refine WC.seq ?_); refine WC.run ?_)
  (try simp only [wk, wl, wx, reduceLT, reduceEqDiff, Nat.reduceBEq, reduceIte])
  ((repeat refine WC.seq ?_); refine WC.run ?_)
  (try simp only [wk, wl, wx, reduceLT, reduceEqDiff, Nat.reduceBEq, reduceIte, eq_nils hb ty22 rfl])
  cases hn : isNils s with
  | true =>
    obtain ⟨rfl, _, h3⟩ := isNils_empty hb hn
    have hx : xs = [] := by simpa using h3
    subst hx
    (repeat refine WC.seq ?_)
    refine WC.cond (b := true) (by (try simp only [wk, wl, wx, reduceLT, reduceEqDiff, Nat.reduceBEq, reduceIte]); (try simp); (try omega)) ?_
    (try simp only [wk, wl, wx, reduceLT, reduceEqDiff, Nat.reduceBEq, reduceIte])
    ((repeat refine WC.seq ?_); refine WC.run ?_)
    (try simp only [wk, wl, wx, reduceLT, reduceEqDiff, Nat.reduceBEq, reduceIte])
    refine WC.ret ?_
    (try simp only [wk, wl, wx, reduceLT, reduceEqDiff, Nat.reduceBEq, reduceIte])
    exact ⟨.nil, In.nils, Fix.refl _ _, In.nils⟩
  | false =>
    (repeat refine WC.seq ?_)
    refine WC.cond (b := false) (by (try simp only [wk, wl, wx, reduceLT, reduceEqDiff, Nat.reduceBEq, reduceIte]); (try simp); (try omega)) (WC.skip ?_)
    (try simp only [wk, wl, wx, reduceLT, reduceEqDiff, Nat.reduceBEq, reduceIte])
    ((repeat refine WC.seq ?_); refine WC.run ?_)
    (try simp only [wk, wl, wx, reduceLT, reduceEqDiff, Nat.reduceBEq, reduceIte])
    refine sat_slice0 ty22 rfl ty5 rfl (by decide) ?_
    intro h1 b1 n1 f1
    (try simp only [wk, wl, wx, reduceLT, reduceEqDiff, Nat.reduceBEq, reduceIte])
    refine app_ok (h0 := h1) (xs := []) (ys := xs) (Grew.refl b1 (fun b o n c e => by injection e with e; omega)) ty22 (.inl ⟨_, rfl⟩) (hb.fix hs f1).len (hb.fix hs f1).cells (by simp; omega) ?_
    intro s' h2 g2 f2
    (try simp only [wk, wl, wx, reduceLT, reduceEqDiff, Nat.reduceBEq, reduceIte])
    refine WC.ret ?_
    (try simp only [wk, wl, wx, reduceLT, reduceEqDiff, Nat.reduceBEq, reduceIte])
    refine ⟨g2.buf, g2.low, ⟨by have := g2.fix.next; omega, fun c hc => ?_⟩, fun b o n c e => ?_⟩
    · rw [g2.fix.same c ⟨by omega, fun o m cc e => by injection e with e; omega⟩, f1.same c hc]
    · rcases g2.own _ _ _ _ e with q | ⟨o, k, c, q⟩
      · omega
      · injection q with q; omega

theorem u8_neq {E : Env} {h : H} {c : Bool} {t : Nat} {a b : UInt8} : binV E h c .neq t (u8 a) (u8 b) = some (.bool (a != b)) := by
  unfold u8
  rw [bin_neq]
  congr 2
  by_cases e : a = b
  · subst e; simp
  · have : (a.toNat : Int) ≠ (b.toNat : Int) := fun q => e (by
      have := Int.ofNat.inj q
      exact UInt8.toNat_inj.1 this)
    have e1 : ((a.toNat : Int) == (b.toNat : Int)) = false := by simpa using this
    have e2 : (a == b) = false := by simpa using e
    simp only [bne, e1, e2]

theorem equal_ok {h : H} {s t : V} {xs ys : List UInt8} (hb : Bs g h s xs) (hc : Bs g h t ys) (hlen : xs.length ≤ 2 ^ 39) (hlen2 : ys.length ≤ 2 ^ 39) : WF (E g) 64 [s, t] h fun v h' => v = .bool (decide (xs = ys)) ∧ h' = h := by
  refine WF.enter fn64 rfl ?_
  ((repeat refine WC.seq ?_); refine WC.run ?_)
  (try simp only [wk, wl, wx, reduceLT, reduceEqDiff, Nat.reduceBEq, reduceIte])
  ((repeat refine WC.seq ?_); refine WC.run ?_)
  (try simp only [wk, wl, wx, reduceLT, reduceEqDiff, Nat.reduceBEq, reduceIte, hb.len, hc.len])
  (repeat refine WC.seq ?_)
  by_cases hl : xs.length = ys.length
  · refine WC.cond (b := false) (by (try simp only [wk, wl, wx, reduceLT, reduceEqDiff, Nat.reduceBEq, reduceIte]); (try simp); (try omega)) (WC.skip ?_)
    (try simp only [wk, wl, wx, reduceLT, reduceEqDiff, Nat.reduceBEq, reduceIte])
    ((repeat refine WC.seq ?_); refine WC.run ?_)
    (try simp only [wk, wl, wx, reduceLT, reduceEqDiff, Nat.reduceBEq, reduceIte, hb.len])
    (repeat refine WC.seq ?_)
    refine WC.block ?_
    refine WC.while (fun m fr hh => ∃ ts i, fr = ⟨ts, 26, [], 64, none⟩ ∧ hh = h ∧ m = xs.length - i ∧ i ≤ xs.length ∧ ts.get 0 = some s ∧ ts.get 1 = some t ∧ ts.get 12 = some (.int .i64 xs.length) ∧ ts.get 13 = some (.int .i64 i) ∧ xs.take i = ys.take i) ?_ ⟨_, 0, rfl, rfl, rfl, by omega, ?_, ?_, ?_, ?_, ?_⟩
    · rintro m fr hh ⟨ts, i, rfl, rfl, rfl, hi, h0, h1, h12, h13, heq⟩
      ((repeat refine WC.seq ?_); refine WC.run ?_)
      (try simp only [wk, wl, wx, reduceLT, reduceEqDiff, Nat.reduceBEq, reduceIte, h12, h13])
      (repeat refine WC.seq ?_)
      by_cases hlt : i < xs.length
      · refine WC.cond (b := true) (by (try simp only [wk, wl, wx, reduceLT, reduceEqDiff, Nat.reduceBEq, reduceIte]); (try simp); (try omega)) (WC.skip ?_)
        (try simp only [wk, wl, wx, reduceLT, reduceEqDiff, Nat.reduceBEq, reduceIte])
        obtain ⟨p, p1, p2⟩ := hb.at hlt
        obtain ⟨q, q1, q2⟩ := hc.at (show i < ys.length by omega)
        (repeat refine WC.seq ?_)
        refine WC.block ?_
        ((repeat refine WC.seq ?_); refine WC.run ?_)
        (try simp only [wk, wl, wx, reduceLT, reduceEqDiff, Nat.reduceBEq, reduceIte, h13])
        ((repeat refine WC.seq ?_); refine WC.draw (plans := pl64_6) (by kernel_rfl) ?_; simp only [pl64_6, List.mem_cons, List.not_mem_nil, or_false, forall_eq_or_imp, forall_eq])
        (try simp (maxSteps := 2000000) only [wk, wl, wx, reduceLT, reduceEqDiff, Nat.reduceBEq, reduceIte, wd, Chk, and_true, true_and, h0, h1, p1, p2, q1, q2, u8_neq])
        (repeat refine WC.seq ?_)
        by_cases hx : xs[i] = ys[i]
        · refine WC.cond (b := false) (by (try simp only [wk, wl, wx, reduceLT, reduceEqDiff, Nat.reduceBEq, reduceIte]); (try simp); (try omega)) (WC.skip ?_)
          (try simp only [wk, wl, wx, reduceLT, reduceEqDiff, Nat.reduceBEq, reduceIte])
          ((repeat refine WC.seq ?_); refine WC.run ?_)
          (try simp only [wk, wl, wx, reduceLT, reduceEqDiff, Nat.reduceBEq, reduceIte, h13, bin_add])
          refine ⟨_, ?_, _, i + 1, rfl, trivial, rfl, by omega, ?_⟩
          · omega
          (try simp only [wk, wl, wx, reduceLT, reduceEqDiff, Nat.reduceBEq, reduceIte, h0, h1, h12])
          refine ⟨trivial, trivial, trivial, ?_, ?_⟩
          · rw [wrap64 (by omega) (by omega)]; rfl
          · rw [List.take_succ_eq_append_getElem hlt, List.take_succ_eq_append_getElem (show i < ys.length by omega), heq, hx]
        · refine WC.cond (b := true) (by (try simp only [wk, wl, wx, reduceLT, reduceEqDiff, Nat.reduceBEq, reduceIte]); (try simp); (try omega)) ?_
          ((repeat refine WC.seq ?_); refine WC.run ?_)
          (try simp only [wk, wl, wx, reduceLT, reduceEqDiff, Nat.reduceBEq, reduceIte])
          refine WC.ret ?_
          (try simp only [wk, wl, wx, reduceLT, reduceEqDiff, Nat.reduceBEq, reduceIte])
          have : xs ≠ ys := fun e => hx (by subst e; rfl)
          simp [this]
      · refine WC.cond (b := false) (by (try simp only [wk, wl, wx, reduceLT, reduceEqDiff, Nat.reduceBEq, reduceIte]); (try simp); (try omega)) (WC.exit ?_)
        have : i = xs.length := by omega
        subst this
        (try simp only [wk, wl, wx, reduceLT, reduceEqDiff, Nat.reduceBEq, reduceIte])
        ((repeat refine WC.seq ?_); refine WC.run ?_)
        (try simp only [wk, wl, wx, reduceLT, reduceEqDiff, Nat.reduceBEq, reduceIte])
        refine WC.ret ?_
        (try simp only [wk, wl, wx, reduceLT, reduceEqDiff, Nat.reduceBEq, reduceIte])
        have : xs = ys := by
          rw [List.take_length] at heq
          rw [heq, List.take_of_length_le (by omega)]
        subst this
        simp
    all_goals (try simp only [wk, wl, wx, reduceLT, reduceEqDiff, Nat.reduceBEq, reduceIte])
    all_goals simp
  · refine WC.cond (b := true) (by (try simp only [wk, wl, wx, reduceLT, reduceEqDiff, Nat.reduceBEq, reduceIte]); (try simp); (try omega)) ?_
    ((repeat refine WC.seq ?_); refine WC.run ?_)
    (try simp only [wk, wl, wx, reduceLT, reduceEqDiff, Nat.reduceBEq, reduceIte])
    refine WC.ret ?_
    (try simp only [wk, wl, wx, reduceLT, reduceEqDiff, Nat.reduceBEq, reduceIte])
    have : xs ≠ ys := fun e => hl (by rw [e])
    simp [this]
end Go.Proofs.OP

set_option linter.unusedSimpArgs false
namespace Go.Proofs.OP
open Go Go.Ev
open Go.Proofs
open Nat (reduceLT reduceEqDiff)
variable {g : T (List V)}

def U (n : Int) : Nat := (n % 18446744073709551616).toNat
theorem U_lt (n : Int) : U n < 2 ^ 64 := by unfold U; omega
theorem wrapu64_U (n : Int) : IntKind.u64.wrap n = (U n : Int) := by
  unfold IntKind.wrap U
  simp only [IntKind.bits, IntKind.signed, Bool.false_and, Bool.false_eq_true, if_false]
  omega
theorem U_nat {n : Nat} (h : n < 18446744073709551616) : U n = n := by unfold U; omega

theorem put_ok {h : H} {s : V} {xs : List UInt8} {n : Int} {k : Nat} (hb : BufB g h s xs) (hlow : In (· < h.next) s) (hk : k ≤ 8) (hlen : xs.length ≤ 2 ^ 39) :
    WF (E g) 54 [s, .int .i64 n, .int .i64 k] h fun v h' => GrewB g h s h' v (xs ++ leB (U n) k) := by
  refine WF.enter fn54 rfl ?_
  ((repeat refine WC.seq ?_); refine WC.run ?_)
  (try simp only [wk, wl, wx, reduceLT, reduceEqDiff, Nat.reduceBEq, reduceIte])
  ((repeat refine WC.seq ?_); refine WC.run ?_)
  (try simp only [wk, wl, wx, reduceLT, reduceEqDiff, Nat.reduceBEq, reduceIte, conv_int ty2 ty188 rfl, wrapu64_U])
  ((repeat refine WC.seq ?_); refine WC.run ?_)
  (try simp only [wk, wl, wx, reduceLT, reduceEqDiff, Nat.reduceBEq, reduceIte])
  (repeat refine WC.seq ?_)
  refine WC.block ?_
  refine WC.while (fun m fr hh => ∃ ts i v, fr = ⟨ts, 24, [], 54, none⟩ ∧ GrewB g h s hh v (xs ++ leB (U n) i) ∧ m = k - i ∧ i ≤ k ∧ ts.get 0 = some v ∧ ts.get 2 = some (.int .i64 k) ∧ ts.get 7 = some (.int .u64 (U n / 256 ^ i : Nat)) ∧ ts.get 8 = some (.int .i64 i)) ?_ ⟨_, 0, s, rfl, ?_, rfl, by omega, ?_, ?_, ?_, ?_⟩
  · rintro m fr hh ⟨ts, i, v, rfl, gr, rfl, hi, h0, h2, h7, h8⟩
    ((repeat refine WC.seq ?_); refine WC.run ?_)
    (try simp only [wk, wl, wx, reduceLT, reduceEqDiff, Nat.reduceBEq, reduceIte, h2, h8])
    (repeat refine WC.seq ?_)
    by_cases hlt : i < k
    · refine WC.cond (b := true) (by (try simp only [wk, wl, wx, reduceLT, reduceEqDiff, Nat.reduceBEq, reduceIte]); (try simp); (try omega)) (WC.skip ?_)
      (try simp only [wk, wl, wx, reduceLT, reduceEqDiff, Nat.reduceBEq, reduceIte])
      (repeat refine WC.seq ?_)
      refine WC.block ?_
      ((repeat refine WC.seq ?_); refine WC.run ?_)
      (try simp only [wk, wl, wx, reduceLT, reduceEqDiff, Nat.reduceBEq, reduceIte, h0, h7, conv_int ty188 ty5 rfl, wrapu8_nat, u8_ofNat])
      refine sat_slice1 ty22 rfl ty5 rfl rfl rfl ?_
      intro h2' b2 n2 f2
      (try simp only [wk, wl, wx, reduceLT, reduceEqDiff, Nat.reduceBEq, reduceIte])
      refine app_ok (ys := [UInt8.ofNat (U n / 256 ^ i)]) (gr.keep f2) ty22 (.inl ⟨_, rfl⟩) b2.sl.len b2.sl.cells (by simp [leB_length]; omega) ?_
      intro s' h3 gr3 _
      rw [List.append_assoc, ← leB_snoc] at gr3
      (try simp only [wk, wl, wx, reduceLT, reduceEqDiff, Nat.reduceBEq, reduceIte])
      ((repeat refine WC.seq ?_); refine WC.run ?_)
      (try simp only [wk, wl, wx, reduceLT, reduceEqDiff, Nat.reduceBEq, reduceIte, h7, bin_quo (show (256 : Int) ≠ 0 by decide)])
      ((repeat refine WC.seq ?_); refine WC.run ?_)
      (try simp only [wk, wl, wx, reduceLT, reduceEqDiff, Nat.reduceBEq, reduceIte, h8, bin_add])
      refine ⟨_, ?_, _, i+1, s', rfl, gr3, rfl, by omega, ?_⟩
      · omega
      (try simp only [wk, wl, wx, reduceLT, reduceEqDiff, Nat.reduceBEq, reduceIte, h2])
      refine ⟨trivial, trivial, ?_, ?_⟩
      · have hU := U_lt n
        have h1 : U n / 256 ^ (i + 1) ≤ U n := Nat.div_le_self _ _
        have e : IntKind.u64.wrap (((U n / 256 ^ i : Nat) : Int).tdiv 256) = ((U n / 256 ^ (i + 1) : Nat) : Int) := by
          have : ((256 : Int)) = ((256 : Nat) : Int) := rfl
          rw [this, tdiv_nat, Nat.div_div_eq_div_mul, ← Nat.pow_succ, Nat.succ_eq_add_one, wrapu64_nat, Nat.mod_eq_of_lt (by omega)]
        rw [e]
      · rw [wrap64 (by omega) (by omega)]; rfl
    · refine WC.cond (b := false) (by (try simp only [wk, wl, wx, reduceLT, reduceEqDiff, Nat.reduceBEq, reduceIte]); (try simp); (try omega)) (WC.exit ?_)
      have : i = k := by omega
      subst this
      (try simp only [wk, wl, wx, reduceLT, reduceEqDiff, Nat.reduceBEq, reduceIte])
      ((repeat refine WC.seq ?_); refine WC.run ?_)
      (try simp only [wk, wl, wx, reduceLT, reduceEqDiff, Nat.reduceBEq, reduceIte, h0])
      refine WC.ret ?_
      (try simp only [wk, wl, wx, reduceLT, reduceEqDiff, Nat.reduceBEq, reduceIte])
      exact gr
  · simpa [leB] using Grew.refl hb hlow
  all_goals (try simp only [wk, wl, wx, reduceLT, reduceEqDiff, Nat.reduceBEq, reduceIte])
  all_goals simp

theorem bin_seql {E : Env} {h : H} {c : Bool} {t : Nat} {a b : List UInt8} : binV E h c .eql t (.str a) (.str b) = some (.bool (a == b)) := rfl
theorem bin_sneq {E : Env} {h : H} {c : Bool} {t : Nat} {a b : List UInt8} : binV E h c .neq t (.str a) (.str b) = some (.bool (!(a == b))) := rfl
theorem len_str {h : H} {s : List UInt8} : lenB (E g) h 9 (.str s) = some (.int .i64 s.length) := by
  simp only [lenB, ty9]

def nameE (s : List UInt8) : Int := if s = [] then 9 else if 64 < s.length then 21 else 0

theorem rnamed_ok {h : H} {s : List UInt8} : WF (E g) 43 [.str s] h fun v h' => v = .int .i64 (nameE s) ∧ h' = h := by
  refine WF.enter fn43 rfl ?_
  ((repeat refine WC.seq ?_); refine WC.run ?_)
  (try simp only [wk, wl, wx, reduceLT, reduceEqDiff, Nat.reduceBEq, reduceIte])
  ((repeat refine WC.seq ?_); refine WC.run ?_)
  (try simp only [wk, wl, wx, reduceLT, reduceEqDiff, Nat.reduceBEq, reduceIte, bin_seql])
  (repeat refine WC.seq ?_)
  cases s with
  | nil =>
    refine WC.cond (b := true) (by (try simp only [wk, wl, wx, reduceLT, reduceEqDiff, Nat.reduceBEq, reduceIte]); (try simp); (try omega)) ?_
    ((repeat refine WC.seq ?_); refine WC.run ?_)
    (try simp only [wk, wl, wx, reduceLT, reduceEqDiff, Nat.reduceBEq, reduceIte])
    refine WC.ret ?_
    (try simp only [wk, wl, wx, reduceLT, reduceEqDiff, Nat.reduceBEq, reduceIte])
    exact ⟨rfl, by trivial⟩
  | cons c r =>
    refine WC.cond (b := false) (by (try simp only [wk, wl, wx, reduceLT, reduceEqDiff, Nat.reduceBEq, reduceIte]); (try simp); (try omega)) (WC.skip ?_)
    (try simp only [wk, wl, wx, reduceLT, reduceEqDiff, Nat.reduceBEq, reduceIte])
    ((repeat refine WC.seq ?_); refine WC.run ?_)
    (try simp only [wk, wl, wx, reduceLT, reduceEqDiff, Nat.reduceBEq, reduceIte, len_str])
    (repeat refine WC.seq ?_)
    by_cases hl : 64 < r.length + 1
    · refine WC.cond (b := true) (by (try simp only [wk, wl, wx, reduceLT, reduceEqDiff, Nat.reduceBEq, reduceIte]); (try simp); (try omega)) ?_
      ((repeat refine WC.seq ?_); refine WC.run ?_)
      (try simp only [wk, wl, wx, reduceLT, reduceEqDiff, Nat.reduceBEq, reduceIte])
      refine WC.ret ?_
      (try simp only [wk, wl, wx, reduceLT, reduceEqDiff, Nat.reduceBEq, reduceIte])
      exact ⟨by rw [nameE, if_neg (by simp), if_pos (by simpa using hl)], by trivial⟩
    · refine WC.cond (b := false) (by (try simp only [wk, wl, wx, reduceLT, reduceEqDiff, Nat.reduceBEq, reduceIte]); (try simp); (try omega)) (WC.skip ?_)
      (try simp only [wk, wl, wx, reduceLT, reduceEqDiff, Nat.reduceBEq, reduceIte])
      ((repeat refine WC.seq ?_); refine WC.run ?_)
      (try simp only [wk, wl, wx, reduceLT, reduceEqDiff, Nat.reduceBEq, reduceIte])
      refine WC.ret ?_
      (try simp only [wk, wl, wx, reduceLT, reduceEqDiff, Nat.reduceBEq, reduceIte])
      exact ⟨by rw [nameE, if_neg (by simp), if_neg (by simpa using hl)], by trivial⟩
end Go.Proofs.OP

set_option linter.unusedSimpArgs false
namespace Go.Proofs.OP
open Go Go.Ev
open Go.Proofs
open Nat (reduceLT reduceEqDiff)
variable {g : T (List V)}

def i64 (n : Int) : V := .int .i64 n
structure SymD where
  name : List UInt8
  sec : Int
  off : Int
  glob : Bool
  weak : Bool
structure RelD where
  sec : Int
  off : Int
  kind : Int
  sym : List UInt8
  add : Int
structure ObjD where
  name : List UInt8
  code : List UInt8
  data : List UInt8
  syms : List SymD
  rels : List RelD
  needs : List (List UInt8)
  entry : List UInt8
def symV (s : SymD) : List V := [.str s.name, i64 s.sec, i64 s.off, .bool s.glob, .bool s.weak]
def relV (r : RelD) : List V := [i64 r.sec, i64 r.off, i64 r.kind, .str r.sym, i64 r.add]
abbrev Ss (g : T (List V)) (h : H) (s : V) (L : List (List UInt8)) : Prop := Vs (E g) h V.str s L
abbrev Sy (g : T (List V)) (h : H) (s : V) (L : List SymD) : Prop := Rcs (E g) h 5 symV s L
abbrev Re (g : T (List V)) (h : H) (s : V) (L : List RelD) : Prop := Rcs (E g) h 5 relV s L

structure Oc where
  code : V
  data : V
  syms : V
  rels : V
  needs : V
def Oc.cells (c : Oc) (o : ObjD) : List V := [.str o.name, c.code, c.data, c.syms, c.rels, c.needs, .str o.entry]
structure Ob (g : T (List V)) (h : H) (K : Nat → Prop) (c : Oc) (o : ObjD) : Prop where
  code : Bs g h c.code o.code
  data : Bs g h c.data o.data
  syms : Sy g h c.syms o.syms
  rels : Re g h c.rels o.rels
  needs : Ss g h c.needs o.needs
  inC : In K c.code
  inD : In K c.data
  inS : In K c.syms
  inR : In K c.rels
  inN : In K c.needs
theorem Ob.fix {h h' : H} {K K' : Nat → Prop} {c : Oc} {o : ObjD} (a : Ob g h K c o) (f : Fix K' h h') (hs : ∀ b, K b → K' b) : Ob g h' K c o :=
  ⟨Sl.fix a.code (a.inC.sub hs) f, Sl.fix a.data (a.inD.sub hs) f, Sl.fix a.syms (a.inS.sub hs) f, Sl.fix a.rels (a.inR.sub hs) f, Sl.fix a.needs (a.inN.sub hs) f, a.inC, a.inD, a.inS, a.inR, a.inN⟩
theorem Ob.up {h : H} {K K' : Nat → Prop} {c : Oc} {o : ObjD} (a : Ob g h K c o) (hs : ∀ b, K b → K' b) : Ob g h K' c o :=
  ⟨a.code, a.data, a.syms, a.rels, a.needs, a.inC.sub hs, a.inD.sub hs, a.inS.sub hs, a.inR.sub hs, a.inN.sub hs⟩

def nameT (s : List UInt8) : Int := if 64 < s.length then 21 else 0
theorem named_ok {h : H} {s : List UInt8} {e : Bool} : WF (E g) 39 [.str s, .bool e] h fun v h' => v = .int .i64 (if e then nameT s else nameE s) ∧ h' = h := by
  refine WF.enter fn39 rfl ?_
  ((repeat refine WC.seq ?_); refine WC.run ?_)
  (try simp only [wk, wl, wx, reduceLT, reduceEqDiff, Nat.reduceBEq, reduceIte])
  (repeat refine WC.seq ?_)
  refine WC.block ?_
  ((repeat refine WC.seq ?_); refine WC.run ?_)
  have hz : (V.str ([] : List UInt8)) = .str [] := rfl
  cases s with
  | nil =>
    cases e with
    | false =>
      (try simp only [wk, wl, wx, reduceLT, reduceEqDiff, Nat.reduceBEq, reduceIte, bin_seql, beq_self_eq_true, un_not, Bool.not_false])
      (repeat refine WC.seq ?_)
      refine WC.cond (b := true) (by (try simp only [wk, wl, wx, reduceLT, reduceEqDiff, Nat.reduceBEq, reduceIte]); (try simp); (try omega)) ?_
      ((repeat refine WC.seq ?_); refine WC.run ?_)
      (try simp only [wk, wl, wx, reduceLT, reduceEqDiff, Nat.reduceBEq, reduceIte])
      refine WC.ret ?_
      (try simp only [wk, wl, wx, reduceLT, reduceEqDiff, Nat.reduceBEq, reduceIte])
      exact ⟨rfl, by trivial⟩
    | true =>
      (try simp only [wk, wl, wx, reduceLT, reduceEqDiff, Nat.reduceBEq, reduceIte, bin_seql, beq_self_eq_true, un_not, Bool.not_true])
      (repeat refine WC.seq ?_)
      refine WC.cond (b := false) (by (try simp only [wk, wl, wx, reduceLT, reduceEqDiff, Nat.reduceBEq, reduceIte]); (try simp); (try omega)) ?_
      ((repeat refine WC.seq ?_); refine WC.run ?_)
      (try simp only [wk, wl, wx, reduceLT, reduceEqDiff, Nat.reduceBEq, reduceIte, len_str])
      (repeat refine WC.seq ?_)
      refine WC.cond (b := false) (by (try simp only [wk, wl, wx, reduceLT, reduceEqDiff, Nat.reduceBEq, reduceIte]); (try simp); (try omega)) (WC.skip ?_)
      (try simp only [wk, wl, wx, reduceLT, reduceEqDiff, Nat.reduceBEq, reduceIte])
      ((repeat refine WC.seq ?_); refine WC.run ?_)
      (try simp only [wk, wl, wx, reduceLT, reduceEqDiff, Nat.reduceBEq, reduceIte])
      refine WC.ret ?_
      (try simp only [wk, wl, wx, reduceLT, reduceEqDiff, Nat.reduceBEq, reduceIte])
      exact ⟨rfl, by trivial⟩
  | cons c r =>
    have hb : ((c :: r) == ([] : List UInt8)) = false := rfl
    (try simp only [wk, wl, wx, reduceLT, reduceEqDiff, Nat.reduceBEq, reduceIte, bin_seql, hb])
    (repeat refine WC.seq ?_)
    refine WC.cond (b := false) (by (try simp only [wk, wl, wx, reduceLT, reduceEqDiff, Nat.reduceBEq, reduceIte]); (try simp); (try omega)) ?_
    ((repeat refine WC.seq ?_); refine WC.run ?_)
    (try simp only [wk, wl, wx, reduceLT, reduceEqDiff, Nat.reduceBEq, reduceIte, len_str])
    (repeat refine WC.seq ?_)
    by_cases hl : 64 < r.length + 1
    · refine WC.cond (b := true) (by (try simp only [wk, wl, wx, reduceLT, reduceEqDiff, Nat.reduceBEq, reduceIte]); (try simp); (try omega)) ?_
      ((repeat refine WC.seq ?_); refine WC.run ?_)
      (try simp only [wk, wl, wx, reduceLT, reduceEqDiff, Nat.reduceBEq, reduceIte])
      refine WC.ret ?_
      (try simp only [wk, wl, wx, reduceLT, reduceEqDiff, Nat.reduceBEq, reduceIte])
      refine ⟨?_, by trivial⟩
      cases e <;> simp [nameE, nameT, hl]
    · refine WC.cond (b := false) (by (try simp only [wk, wl, wx, reduceLT, reduceEqDiff, Nat.reduceBEq, reduceIte]); (try simp); (try omega)) (WC.skip ?_)
      (try simp only [wk, wl, wx, reduceLT, reduceEqDiff, Nat.reduceBEq, reduceIte])
      ((repeat refine WC.seq ?_); refine WC.run ?_)
      (try simp only [wk, wl, wx, reduceLT, reduceEqDiff, Nat.reduceBEq, reduceIte])
      refine WC.ret ?_
      (try simp only [wk, wl, wx, reduceLT, reduceEqDiff, Nat.reduceBEq, reduceIte])
      refine ⟨?_, by trivial⟩
      cases e <;> simp [nameE, nameT, hl]

end Go.Proofs.OP

set_option linter.unusedSimpArgs false
namespace Go.Proofs.OP
open Go Go.Ev
open Go.Proofs
open Nat (reduceLT reduceEqDiff)
variable {g : T (List V)}

def two (p : Int × Int) : List V := [i64 p.1, i64 p.2]
end Go.Proofs.OP

set_option linter.unusedSimpArgs false
namespace Go.Proofs.OP
open Go Go.Ev
open Go.Proofs
open Nat (reduceLT reduceEqDiff)
variable {g : T (List V)}

theorem flat_take {α : Type} {f : α → List V} {sz : Nat} (hf : ∀ x, (f x).length = sz) : ∀ (L : List α) (i : Nat), (L.flatMap f).take (i * sz) = (L.take i).flatMap f
  | [], i => by simp
  | x :: r, 0 => by simp
  | x :: r, i + 1 => by
    rw [List.flatMap_cons, List.take_succ_cons, List.flatMap_cons, ← flat_take hf r i, List.take_append, hf, List.take_of_length_le (by rw [hf, Nat.succ_mul]; omega)]
    congr 2
    rw [Nat.succ_mul]; omega
theorem Rcs.upto {α : Type} {h : H} {sz : Nat} {f : α → List V} {s : V} {L : List α} (a : Rcs (E g) h sz f s L) (hf : ∀ x, (f x).length = sz) {t e : Nat} {i ei : TI} (ht : (E g).tys.get t = some i) (hd : i.desc = .slice e) (he : (E g).tys.get e = some ei) (hs : ei.size = sz) {n : Nat} (hn : n ≤ L.length) :
    ∃ s', sliceV (E g) t s none (some (.int .i64 n)) none = some s' ∧ Rcs (E g) h sz f s' (L.take n) ∧ (∀ K, In K s → In K s') := by
  obtain ⟨s', h1, h2, h3, _⟩ := Sl.sub a ht hd (by rw [sizeOf_of he, hs]) (lo := none) (hi := some n) (l := 0) (r := n) rfl rfl (Nat.zero_le _) hn
  refine ⟨s', h1, ?_, h3⟩
  have e : (L.take n).length = n := by simp; omega
  unfold Rcs
  rw [e, ← flat_take hf]
  simpa using h2

end Go.Proofs.OP
