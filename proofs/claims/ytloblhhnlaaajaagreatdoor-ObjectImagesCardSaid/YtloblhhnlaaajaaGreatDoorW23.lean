/- Plain laws: both Decodes answer the same. -/
import Derived.Test.YtloblhhnlaaajaaGreatDoorW15
import Derived.Test.YtloblhhnlaaajaaGreatDoorW22
import Derived.Test.YtloblhhnlaaajaaGreatDoorW20
import Derived.Test.YtloblhhnlaaajaaGreatDoorW19
set_option linter.unusedVariables false
set_option linter.unusedSimpArgs false
set_option linter.defProp false
namespace Go.Proofs.OP
open Go Go.Ev

theorem tak_app {n : Nat} {xs r : List UInt8} (h : xs.length = n) : takR ⟨xs ++ r, false⟩ (n : Int) = (xs, ⟨r, false⟩) := by
  unfold takR
  rw [if_neg (by simp; omega)]
  simp [List.take_left' h, List.drop_left' h]
theorem rnum_back {n : Int} {r : List UInt8} (hn : In64 n) : rnumR ⟨leB (U n) 8 ++ r, false⟩ = (n, ⟨r, false⟩) := by
  have h := tak_app (n := 8) (r := r) (leB_length 8 (U n))
  unfold rnumR
  rw [show (8 : Int) = ((8 : Nat) : Int) from rfl, h]
  simp only
  rw [leN_leB, Nat.mod_eq_of_lt (by have := U_lt n; omega), I64_U hn]
theorem rtxt_back {xs r : List UInt8} (hx : xs.length < 2 ^ 31) : rtxtR ⟨txtB [xs] ++ r, false⟩ = (xs, ⟨r, false⟩) := by
  have e : txtB [xs] ++ r = leB (U (xs.length : Int)) 8 ++ (xs ++ r) := by simp [txtB, U_nat (show xs.length < 18446744073709551616 by omega)]
  have hn := rnum_back (n := (xs.length : Int)) (r := xs ++ r) ⟨by omega, by omega⟩
  unfold rtxtR
  rw [e, hn]
  exact tak_app rfl
theorem rlist_back {α : Type} {f : RdS → α × RdS} {enc : α → List UInt8} {L : List α} {k : Nat} {r : List UInt8} (h : ∀ x ∈ L, ∀ r, f ⟨enc x ++ r, false⟩ = (x, ⟨r, false⟩)) (hk : L.length ≤ k) (hL : L.length < 2 ^ 62) (h1 : ∀ x ∈ L, 1 ≤ (enc x).length) :
    rlistR f k ⟨numB [(L.length : Int)] ++ (L.flatMap enc ++ r), false⟩ = (⟨r, false⟩, L) := by
  have e : numB [(L.length : Int)] ++ (L.flatMap enc ++ r) = leB (U (L.length : Int)) 8 ++ (L.flatMap enc ++ r) := by simp [numB]
  have hge := flat_ge h1
  have hn := rnum_back (n := (L.length : Int)) (r := L.flatMap enc ++ r) ⟨by omega, by omega⟩
  have hc : cntR ⟨leB (U (L.length : Int)) 8 ++ (L.flatMap enc ++ r), false⟩ = ((L.length : Int), ⟨L.flatMap enc ++ r, false⟩) := by
    have hb : cntB ⟨leB (U (L.length : Int)) 8 ++ (L.flatMap enc ++ r), false⟩ = false := by
      unfold cntB
      rw [hn]
      have h3 : L.length ≤ (L.flatMap enc ++ r).length := by rw [List.length_append]; omega
      show (false || (decide ((L.length : Int) < 0) || decide (((L.flatMap enc ++ r).length : Int) < (L.length : Int)))) = false
      rw [decide_eq_false (by omega), decide_eq_false (by omega)]; rfl
    unfold cntR
    rw [hb, hn]
    simp
  unfold rlistR
  rw [e, hc]
  simp only [each_back h hk, List.nil_append]
end Go.Proofs.OP

set_option linter.unusedSimpArgs false
namespace Go.Proofs.OP
open Go Go.Ev
open Go.Proofs
open Nat (reduceLT reduceEqDiff)
variable {g : T (List V)}

instance : DecidableEq SymD := fun a b => if h : a.name = b.name ∧ a.sec = b.sec ∧ a.off = b.off ∧ a.glob = b.glob ∧ a.weak = b.weak then isTrue (by cases a; cases b; simp at h; simp [h]) else isFalse (by rintro rfl; simp at h)
instance : DecidableEq RelD := fun a b => if h : a.sec = b.sec ∧ a.off = b.off ∧ a.kind = b.kind ∧ a.sym = b.sym ∧ a.add = b.add then isTrue (by cases a; cases b; simp at h; simp [h]) else isFalse (by rintro rfl; simp at h)

set_option maxRecDepth 100000 in
set_option maxHeartbeats 4000000 in
theorem names_ok {h : H} {s t : V} {L M : List (List UInt8)} (hs : Ss g h s L) (ht : Ss g h t M) (hL : L.length < 2 ^ 40) (hM : M.length < 2 ^ 40) : WF (E g) 69 [s, t] h fun v h' => v = .bool (decide (L = M)) ∧ h' = h := by
  refine WF.enter fn69 rfl ?_
  ((repeat refine WC.seq ?_); refine WC.run ?_)
  (try simp only [wk, wl, wx, reduceLT, reduceEqDiff, Nat.reduceBEq, reduceIte])
  ((repeat refine WC.seq ?_); refine WC.run ?_)
  (try simp only [wk, wl, wx, reduceLT, reduceEqDiff, Nat.reduceBEq, reduceIte, Sl.lenB hs ty25 rfl, Sl.lenB ht ty25 rfl])
  (repeat refine WC.seq ?_)
  by_cases hl : L.length = M.length
  · refine WC.cond (b := false) (by (try simp only [wk, wl, wx, reduceLT, reduceEqDiff, Nat.reduceBEq, reduceIte]); simp [hl]) (WC.skip ?_)
    (try simp only [wk, wl, wx, reduceLT, reduceEqDiff, Nat.reduceBEq, reduceIte])
    ((repeat refine WC.seq ?_); refine WC.run ?_)
    (try simp only [wk, wl, wx, reduceLT, reduceEqDiff, Nat.reduceBEq, reduceIte, Sl.lenB hs ty25 rfl])
    (repeat refine WC.seq ?_)
    refine WC.block ?_
    refine WC.while (fun m fr hh => ∃ ts i, fr = ⟨ts, 26, [], 69, none⟩ ∧ hh = h ∧ m = L.length - i ∧ i ≤ L.length ∧ ts.get 0 = some s ∧ ts.get 1 = some t ∧ ts.get 12 = some (.int .i64 L.length) ∧ ts.get 13 = some (.int .i64 i) ∧ L.take i = M.take i) ?_ ⟨_, 0, rfl, rfl, rfl, by omega, ?_, ?_, ?_, ?_, rfl⟩
    · rintro m fr hh ⟨ts, i, rfl, rfl, rfl, hi, t0, t1, t12, t13, he⟩
      ((repeat refine WC.seq ?_); refine WC.run ?_)
      (try simp only [wk, wl, wx, reduceLT, reduceEqDiff, Nat.reduceBEq, reduceIte, t12, t13])
      (repeat refine WC.seq ?_)
      by_cases hlt : i < L.length
      · refine WC.cond (b := true) (by (try simp only [wk, wl, wx, reduceLT, reduceEqDiff, Nat.reduceBEq, reduceIte]); (try simp); (try omega)) (WC.skip ?_)
        (try simp only [wk, wl, wx, reduceLT, reduceEqDiff, Nat.reduceBEq, reduceIte])
        obtain ⟨p, p1, p2⟩ := hs.at ty25 rfl ty9 rfl rfl hlt
        have p2 := p2 hh fun _ _ _ _ _ => rfl
        have hlt' : i < M.length := by omega
        obtain ⟨q, q1, q2⟩ := ht.at ty25 rfl ty9 rfl rfl hlt'
        have q2 := q2 hh fun _ _ _ _ _ => rfl
        (repeat refine WC.seq ?_)
        refine WC.block ?_
        ((repeat refine WC.seq ?_); refine WC.run ?_)
        (try simp only [wk, wl, wx, reduceLT, reduceEqDiff, Nat.reduceBEq, reduceIte, t13])
        ((repeat refine WC.seq ?_); refine WC.draw (plans := pl69_6) (by kernel_rfl) ?_; simp only [pl69_6, List.mem_cons, List.not_mem_nil, or_false, forall_eq_or_imp, forall_eq])
        (try simp (maxSteps := 2000000) only [wk, wl, wx, reduceLT, reduceEqDiff, Nat.reduceBEq, reduceIte, wd, Chk, and_true, true_and, t0, t1, p1, p2, q1, q2, bin_sneq])
        (repeat refine WC.seq ?_)
        by_cases hc : L[i] = M[i]
        · refine WC.cond (b := false) (by (try simp only [wk, wl, wx, reduceLT, reduceEqDiff, Nat.reduceBEq, reduceIte]); simp [hc]) (WC.skip ?_)
          (try simp only [wk, wl, wx, reduceLT, reduceEqDiff, Nat.reduceBEq, reduceIte])
          ((repeat refine WC.seq ?_); refine WC.run ?_)
          (try simp only [wk, wl, wx, reduceLT, reduceEqDiff, Nat.reduceBEq, reduceIte, t13, bin_add])
          refine ⟨_, ?_, _, i + 1, rfl, by trivial, rfl, by omega, ?_⟩
          · omega
          (try simp only [wk, wl, wx, reduceLT, reduceEqDiff, Nat.reduceBEq, reduceIte, t0, t1, t12])
          refine ⟨trivial, trivial, trivial, ?_, ?_⟩
          · rw [wrap64 (by omega) (by omega)]; rfl
          · rw [List.take_succ_eq_append_getElem hlt, List.take_succ_eq_append_getElem hlt', he, hc]
        · refine WC.cond (b := true) (by (try simp only [wk, wl, wx, reduceLT, reduceEqDiff, Nat.reduceBEq, reduceIte]); simp [hc]) ?_
          ((repeat refine WC.seq ?_); refine WC.run ?_)
          (try simp only [wk, wl, wx, reduceLT, reduceEqDiff, Nat.reduceBEq, reduceIte])
          refine WC.ret ?_
          (try simp only [wk, wl, wx, reduceLT, reduceEqDiff, Nat.reduceBEq, reduceIte])
          refine ⟨?_, by trivial⟩
          rw [decide_eq_false (by rintro rfl; exact hc rfl)]
      · refine WC.cond (b := false) (by (try simp only [wk, wl, wx, reduceLT, reduceEqDiff, Nat.reduceBEq, reduceIte]); (try simp); (try omega)) (WC.exit ?_)
        have : i = L.length := by omega
        subst this
        (try simp only [wk, wl, wx, reduceLT, reduceEqDiff, Nat.reduceBEq, reduceIte])
        ((repeat refine WC.seq ?_); refine WC.run ?_)
        (try simp only [wk, wl, wx, reduceLT, reduceEqDiff, Nat.reduceBEq, reduceIte])
        refine WC.ret ?_
        (try simp only [wk, wl, wx, reduceLT, reduceEqDiff, Nat.reduceBEq, reduceIte])
        refine ⟨?_, by trivial⟩
        rw [List.take_length, hl, List.take_length] at he
        rw [decide_eq_true he]
    all_goals (try simp only [wk, wl, wx, reduceLT, reduceEqDiff, Nat.reduceBEq, reduceIte])
    all_goals (first | trivial | rfl | simp)
  · refine WC.cond (b := true) (by (try simp only [wk, wl, wx, reduceLT, reduceEqDiff, Nat.reduceBEq, reduceIte]); simp; omega) ?_
    ((repeat refine WC.seq ?_); refine WC.run ?_)
    (try simp only [wk, wl, wx, reduceLT, reduceEqDiff, Nat.reduceBEq, reduceIte])
    refine WC.ret ?_
    (try simp only [wk, wl, wx, reduceLT, reduceEqDiff, Nat.reduceBEq, reduceIte])
    refine ⟨?_, by trivial⟩
    rw [decide_eq_false (by rintro rfl; exact hl rfl)]

theorem eqT_str {n : Nat} {a b : List UInt8} : eqT (E g) (n + 1) 9 (.str a) (.str b) = some (decide (a = b)) := by
  have : (a == b) = decide (a = b) := by by_cases h : a = b <;> simp [h]
  simp only [eqT, ty9, scalarEq, this]
theorem eqT_i2 {n : Nat} {a b : Int} : eqT (E g) (n + 1) 2 (.int .i64 a) (.int .i64 b) = some (decide (a = b)) := by
  simp only [eqT, ty2, scalarEq, if_true]
end Go.Proofs.OP

set_option linter.unusedSimpArgs false
namespace Go.Proofs.OP
open Go Go.Ev
open Go.Proofs
open Nat (reduceLT reduceEqDiff)
variable {g : T (List V)}

def shortN (s : List UInt8) : Bool := !decide ((200 : Int) < s.length)
theorem all_false {α : Type} {p : α → Bool} {L : List α} {i : Nat} (hi : i < L.length) (h : p L[i] = false) : L.all p = false := by
  cases hq : L.all p with
  | false => rfl
  | true => rw [List.all_eq_true] at hq; rw [hq _ (List.getElem_mem hi)] at h; cases h
theorem all_snoc {α : Type} {p : α → Bool} {L : List α} {i : Nat} (hi : i < L.length) (h : (L.take i).all p = true) (hx : p L[i] = true) : (L.take (i + 1)).all p = true := by
  rw [List.take_succ_eq_append_getElem hi, List.all_append, h]
  simp [hx]

end Go.Proofs.OP

set_option linter.unusedSimpArgs false
namespace Go.Proofs.OP
open Go Go.Ev
open Go.Proofs
open Nat (reduceLT reduceEqDiff)
variable {g : T (List V)}

theorem Buf.notG {E : Env} {h : H} {e sz n : Nat} {s : V} {vs : List V} (b : Buf E h e sz s n vs) : NotG s := fun a n c q => by
  cases b <;> cases q
end Go.Proofs.OP
