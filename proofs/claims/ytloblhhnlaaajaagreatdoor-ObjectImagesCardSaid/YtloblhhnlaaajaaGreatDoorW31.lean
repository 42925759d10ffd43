/- Walks: increasing. -/
import Derived.Test.YtloblhhnlaaajaaGreatDoorW15
import Derived.Test.YtloblhhnlaaajaaGreatDoorW27
import Derived.Test.YtloblhhnlaaajaaGreatDoorW30
set_option linter.unusedVariables false
set_option linter.unusedSimpArgs false
set_option linter.defProp false
set_option linter.unusedSimpArgs false
namespace Go.Proofs.OP
open Go Go.Ev
open Go.Proofs
open Nat (reduceLT reduceEqDiff)
variable {g : T (List V)}

def incP (L : List (List UInt8)) (i : Nat) : Bool := match L[i]? with
  | none => true
  | some s => decide (nameE s = 0) && (decide (i = 0) || match L[i - 1]? with
    | none => true
    | some p => !leS s p)
def incB (L : List (List UInt8)) : Bool := allB (incP L) L.length && decide ((L.length : Int) ≤ 5000)

theorem named0_ok {h : H} {s : List UInt8} : WF (E g) 39 [.str s, .bool false] h fun v h' => v = .int .i64 (nameE s) ∧ h' = h :=
  named_ok.mono fun v h' ⟨e, f⟩ => ⟨by rw [e]; rfl, f⟩
set_option maxRecDepth 100000 in
set_option maxHeartbeats 4000000 in
theorem increasing_ok {h : H} {s : V} {L : List (List UInt8)} (a : Ss g h s L) (hM : L.length < 2 ^ 62) : WF (E g) 104 [s] h fun v h' => v = .bool (incB L) ∧ h' = h := by
  refine WF.enter fn104 rfl ?_
  ((repeat refine WC.seq ?_); refine WC.run ?_)
  (try simp only [wk, wl, wx, reduceLT, reduceEqDiff, Nat.reduceBEq, reduceIte])
  ((repeat refine WC.seq ?_); refine WC.run ?_)
  (try simp only [wk, wl, wx, reduceLT, reduceEqDiff, Nat.reduceBEq, reduceIte, Sl.lenB a ty25 rfl])
  (repeat refine WC.seq ?_)
  refine WC.block ?_
  refine WC.while (fun m fr hh => ∃ ts i, fr = ⟨ts, 32, [], 104, none⟩ ∧ hh = h ∧ m = L.length - i ∧ i ≤ L.length ∧ ts.get 0 = some s ∧ ts.get 5 = some s ∧ ts.get 6 = some (.int .i64 L.length) ∧ ts.get 7 = some (.int .i64 i) ∧ ∀ j, j < i → incP L j = true) ?_ ⟨_, 0, rfl, rfl, rfl, by omega, ?_, ?_, ?_, ?_, fun j hj => absurd hj (Nat.not_lt_zero _)⟩
  · rintro m fr hh ⟨ts, i, rfl, rfl, rfl, hi, t0, t5, t6, t7, hal⟩
    ((repeat refine WC.seq ?_); refine WC.run ?_)
    (try simp only [wk, wl, wx, reduceLT, reduceEqDiff, Nat.reduceBEq, reduceIte, t6, t7])
    (repeat refine WC.seq ?_)
    by_cases hlt : i < L.length
    · refine WC.cond (b := true) (by (try simp only [wk, wl, wx, reduceLT, reduceEqDiff, Nat.reduceBEq, reduceIte]); (try simp); (try omega)) (WC.skip ?_)
      (try simp only [wk, wl, wx, reduceLT, reduceEqDiff, Nat.reduceBEq, reduceIte])
      obtain ⟨p, p1, p2⟩ := a.at ty25 rfl ty9 rfl rfl hlt
      have p2 := p2 hh fun _ _ _ _ _ => rfl
      have hg : L[i]? = some L[i] := List.getElem?_eq_getElem hlt
      (repeat refine WC.seq ?_)
      refine WC.block ?_
      ((repeat refine WC.seq ?_); refine WC.run ?_)
      (try simp only [wk, wl, wx, reduceLT, reduceEqDiff, Nat.reduceBEq, reduceIte, t5, t7, p1, p2])
      rcases Bool.eq_false_or_eq_true (nameE L[i] != 0) with q1 | q1
      · ((repeat refine WC.seq ?_); refine WC.run ?_)
        (try simp only [wk, wl, wx, reduceLT, reduceEqDiff, Nat.reduceBEq, reduceIte])
        refine named0_ok.mono fun v h2 ⟨e2, e2'⟩ => ?_
        subst e2 e2'
        (try simp only [wk, wl, wx, reduceLT, reduceEqDiff, Nat.reduceBEq, reduceIte, un, q1])
        (repeat refine WC.seq ?_)
        refine WC.cond (b := true) (by (try simp only [wk, wl, wx, reduceLT, reduceEqDiff, Nat.reduceBEq, reduceIte, q1]); (try simp); (try omega)) ?_
        ((repeat refine WC.seq ?_); refine WC.run ?_)
        (try simp only [wk, wl, wx, reduceLT, reduceEqDiff, Nat.reduceBEq, reduceIte])
        refine WC.ret ?_
        (try simp only [wk, wl, wx, reduceLT, reduceEqDiff, Nat.reduceBEq, reduceIte])
        refine ⟨?_, by trivial⟩
        have q1e : ¬ nameE L[i] = 0 := by simpa using q1
        rw [incB, allB_false hlt (by simp only [incP, hg]; rw [decide_eq_false q1e]; rfl), Bool.false_and]
      have q1e : nameE L[i] = 0 := by simpa using q1
      by_cases hz : i = 0
      · subst hz
        ((repeat refine WC.seq ?_); refine WC.run ?_)
        (try simp only [wk, wl, wx, reduceLT, reduceEqDiff, Nat.reduceBEq, reduceIte])
        refine named0_ok.mono fun v h2 ⟨e2, e2'⟩ => ?_
        subst e2 e2'
        have hpos : decide ((0 : Int) < ((0 : Nat) : Int)) = false := rfl
        (try simp only [wk, wl, wx, reduceLT, reduceEqDiff, Nat.reduceBEq, reduceIte, un, q1, hpos])
        (repeat refine WC.seq ?_)
        refine WC.cond (b := false) (by (try simp only [wk, wl, wx, reduceLT, reduceEqDiff, Nat.reduceBEq, reduceIte, q1, hpos]); (try simp); (try omega)) (WC.skip ?_)
        (try simp only [wk, wl, wx, reduceLT, reduceEqDiff, Nat.reduceBEq, reduceIte])
        ((repeat refine WC.seq ?_); refine WC.run ?_)
        (try simp only [wk, wl, wx, reduceLT, reduceEqDiff, Nat.reduceBEq, reduceIte, t7, bin_add])
        refine ⟨_, ?_, _, 1, rfl, by trivial, rfl, by omega, ?_⟩
        · omega
        (try simp only [wk, wl, wx, reduceLT, reduceEqDiff, Nat.reduceBEq, reduceIte, t0, t5, t6])
        refine ⟨trivial, trivial, trivial, ?_, below_succ hal (by simp only [incP, hg]; rw [decide_eq_true q1e]; rfl)⟩
        rfl
      · have hlt' : i - 1 < L.length := by omega
        obtain ⟨p', p1', p2'⟩ := a.at ty25 rfl ty9 rfl rfl hlt'
        have p2' := p2' hh fun _ _ _ _ _ => rfl
        have hg' : L[i - 1]? = some L[i - 1] := List.getElem?_eq_getElem hlt'
        have ew : IntKind.i64.wrap ((i : Int) - 1) = ((i - 1 : Nat) : Int) := by rw [wrap64 (by omega) (by omega)]; omega
        ((repeat refine WC.seq ?_); refine WC.run ?_)
        (try simp only [wk, wl, wx, reduceLT, reduceEqDiff, Nat.reduceBEq, reduceIte])
        refine named0_ok.mono fun v h2 ⟨e2, e2'⟩ => ?_
        subst e2 e2'
        have hpos : decide ((0 : Int) < (i : Int)) = true := decide_eq_true (by omega)
        (try simp only [wk, wl, wx, reduceLT, reduceEqDiff, Nat.reduceBEq, reduceIte, un, q1, hpos, bin_sub, ew, t0, p1', p2', bin_sleq])
        (repeat refine WC.seq ?_)
        cases hl : leS L[i] L[i - 1] with
        | true =>
          refine WC.cond (b := true) (by (try simp only [wk, wl, wx, reduceLT, reduceEqDiff, Nat.reduceBEq, reduceIte, q1, hl]); (try simp); (try omega)) ?_
          ((repeat refine WC.seq ?_); refine WC.run ?_)
          (try simp only [wk, wl, wx, reduceLT, reduceEqDiff, Nat.reduceBEq, reduceIte])
          refine WC.ret ?_
          (try simp only [wk, wl, wx, reduceLT, reduceEqDiff, Nat.reduceBEq, reduceIte])
          refine ⟨?_, by trivial⟩
          rw [incB, allB_false hlt (by simp only [incP, hg, hg']; simp [q1e, hz, hl]), Bool.false_and]
        | false =>
          refine WC.cond (b := false) (by (try simp only [wk, wl, wx, reduceLT, reduceEqDiff, Nat.reduceBEq, reduceIte, q1, hl]); (try simp); (try omega)) (WC.skip ?_)
          (try simp only [wk, wl, wx, reduceLT, reduceEqDiff, Nat.reduceBEq, reduceIte])
          ((repeat refine WC.seq ?_); refine WC.run ?_)
          (try simp only [wk, wl, wx, reduceLT, reduceEqDiff, Nat.reduceBEq, reduceIte, t7, bin_add])
          refine ⟨_, ?_, _, i + 1, rfl, by trivial, rfl, by omega, ?_⟩
          · omega
          (try simp only [wk, wl, wx, reduceLT, reduceEqDiff, Nat.reduceBEq, reduceIte, t0, t5, t6])
          refine ⟨trivial, trivial, trivial, ?_, below_succ hal (by simp only [incP, hg, hg']; simp [q1e, hl])⟩
          rw [wrap64 (by omega) (by omega)]; rfl
    · refine WC.cond (b := false) (by (try simp only [wk, wl, wx, reduceLT, reduceEqDiff, Nat.reduceBEq, reduceIte]); (try simp); (try omega)) (WC.exit ?_)
      have : i = L.length := by omega
      subst this
      (try simp only [wk, wl, wx, reduceLT, reduceEqDiff, Nat.reduceBEq, reduceIte])
      ((repeat refine WC.seq ?_); refine WC.run ?_)
      (try simp only [wk, wl, wx, reduceLT, reduceEqDiff, Nat.reduceBEq, reduceIte, t0, Sl.lenB a ty25 rfl])
      refine WC.ret ?_
      (try simp only [wk, wl, wx, reduceLT, reduceEqDiff, Nat.reduceBEq, reduceIte])
      refine ⟨?_, by trivial⟩
      rw [incB, allB_true hal, Bool.true_and]
  all_goals (try simp only [wk, wl, wx, reduceLT, reduceEqDiff, Nat.reduceBEq, reduceIte])
  all_goals (first | trivial | rfl | simp)
end Go.Proofs.OP

namespace Go.Ev
open Go
section
variable {E : Env} {ops : List Oper}
def noEff (p : List Stp) : Bool := p.all fun s => !s.eff
theorem WPlan_rd {Q : Fr → H → Prop} : ∀ {p : List Stp} (_ : noEff p = true) {rd rd' : List (Nat × V)} {fr : Fr} {h : H} (_ : WPlan E ops p rd fr h Q), WPlan E ops p rd' fr h Q
  | [], _, _, _, _, _, k => k
  | s :: r, hp, rd, rd', fr, h, k => by
    simp only [noEff, List.all_cons, Bool.and_eq_true, Bool.not_eq_true'] at hp
    obtain ⟨he, hr⟩ := hp
    have ih := fun {rd rd' fr h} => WPlan_rd (p := r) (Q := Q) (by exact hr) (rd := rd) (rd' := rd') (fr := fr) (h := h)
    unfold WPlan at k ⊢
    cases hn : nth ops s.idx with
    | none => simp only [hn] at k
    | some o =>
      simp only [hn] at k ⊢
      cases hw : wantedV fr ops o with
      | none => simp only [hw] at k
      | some b =>
        cases b with
        | false =>
          simp only [hw] at k ⊢
          cases hq : fr.put o.dst un with
          | none => simp only [hq] at k
          | some fr' => simp only [hq] at k ⊢; exact ih k
        | true =>
          simp only [hw, he, cond_false] at k ⊢
          refine k.mono fun v h' q => ?_
          cases hq : fr.put o.dst v with
          | none => simp only [hq] at q
          | some fr' => simp only [hq] at q ⊢; exact ih q
theorem WPlan_mono {Q Q' : Fr → H → Prop} (hQ : ∀ fr h, Q fr h → Q' fr h) : ∀ {p : List Stp} {rd : List (Nat × V)} {fr : Fr} {h : H} (_ : WPlan E ops p rd fr h Q), WPlan E ops p rd fr h Q'
  | [], _, _, _, k => hQ _ _ k
  | s :: r, rd, fr, h, k => by
    have ih := fun {rd fr h} => WPlan_mono hQ (p := r) (rd := rd) (fr := fr) (h := h)
    unfold WPlan at k ⊢
    cases hn : nth ops s.idx with
    | none => simp only [hn] at k
    | some o =>
      simp only [hn] at k ⊢
      cases hw : wantedV fr ops o with
      | none => simp only [hw] at k
      | some b =>
        cases b with
        | false =>
          simp only [hw] at k ⊢
          cases hq : fr.put o.dst un with
          | none => simp only [hq] at k
          | some fr' => simp only [hq] at k ⊢; exact ih k
        | true =>
          cases he : s.eff with
          | true =>
            simp only [hw, he, cond_true] at k ⊢
            refine k.mono fun v h' q => ⟨q.1, ?_⟩
            have q := q.2
            cases hq : fr.put o.dst v with
            | none => simp only [hq] at q
            | some fr' => simp only [hq] at q ⊢; exact ih q
          | false =>
            simp only [hw, he, cond_false] at k ⊢
            refine k.mono fun v h' q => ?_
            cases hq : fr.put o.dst v with
            | none => simp only [hq] at q
            | some fr' => simp only [hq] at q ⊢; exact ih q
theorem WPlan_cat {Q : Fr → H → Prop} {p2 : List Stp} (h2 : noEff p2 = true) : ∀ {p1 : List Stp} {rd : List (Nat × V)} {fr : Fr} {h : H} (_ : WPlan E ops p1 rd fr h fun fr' h' => WPlan E ops p2 [] fr' h' Q), WPlan E ops (p1 ++ p2) rd fr h Q
  | [], _, _, _, k => WPlan_rd h2 k
  | s :: r, rd, fr, h, k => by
    have ih := fun {rd fr h} => WPlan_cat h2 (Q := Q) (p1 := r) (rd := rd) (fr := fr) (h := h)
    rw [List.cons_append]
    unfold WPlan at k ⊢
    cases hn : nth ops s.idx with
    | none => simp only [hn] at k
    | some o =>
      simp only [hn] at k ⊢
      cases hw : wantedV fr ops o with
      | none => simp only [hw] at k
      | some b =>
        cases b with
        | false =>
          simp only [hw] at k ⊢
          cases hq : fr.put o.dst un with
          | none => simp only [hq] at k
          | some fr' => simp only [hq] at k ⊢; exact ih k
        | true =>
          cases he : s.eff with
          | true =>
            simp only [hw, he, cond_true] at k ⊢
            refine k.mono fun v h' q => ⟨q.1, ?_⟩
            have q := q.2
            cases hq : fr.put o.dst v with
            | none => simp only [hq] at q
            | some fr' => simp only [hq] at q ⊢; exact ih q
          | false =>
            simp only [hw, he, cond_false] at k ⊢
            refine k.mono fun v h' q => ?_
            cases hq : fr.put o.dst v with
            | none => simp only [hq] at q
            | some fr' => simp only [hq] at q ⊢; exact ih q
theorem WPlan_two {Q M : Fr → H → Prop} (k : Nat) {p : List Stp} {rd : List (Nat × V)} {fr : Fr} {h : H} (h2 : noEff (p.drop k) = true) (k1 : WPlan E ops (p.take k) rd fr h M) (k2 : ∀ fr h, M fr h → WPlan E ops (p.drop k) [] fr h Q) : WPlan E ops p rd fr h Q := by
  rw [← List.take_append_drop k p]; exact WPlan_cat h2 (WPlan_mono k2 k1)
theorem WRun_mono {all : List Oper} {Q Q' : Fr → H → Prop} (hQ : ∀ fr h, Q fr h → Q' fr h) : ∀ {p : List Oper} {fr : Fr} {h : H} (_ : WRun E all p fr h Q), WRun E all p fr h Q'
  | [], _, _, k => hQ _ _ k
  | o :: r, fr, h, k => by
    have ih := fun {fr h} => WRun_mono hQ (all := all) (p := r) (fr := fr) (h := h)
    unfold WRun at k ⊢
    cases hw : wantedV fr all o with
    | none => simp only [hw] at k
    | some b =>
      cases b with
      | false =>
        simp only [hw] at k ⊢
        cases hq : fr.put o.dst un with
        | none => simp only [hq] at k
        | some fr' => simp only [hq] at k ⊢; exact ih k
      | true =>
        simp only [hw] at k ⊢
        refine k.mono fun v h' q => ?_
        cases hq : fr.put o.dst v with
        | none => simp only [hq] at q
        | some fr' => simp only [hq] at q ⊢; exact ih q
theorem WRun_cat {all : List Oper} {Q : Fr → H → Prop} {p2 : List Oper} : ∀ {p1 : List Oper} {fr : Fr} {h : H} (_ : WRun E all p1 fr h fun fr' h' => WRun E all p2 fr' h' Q), WRun E all (p1 ++ p2) fr h Q
  | [], _, _, k => k
  | o :: r, fr, h, k => by
    have ih := fun {fr h} => WRun_cat (all := all) (Q := Q) (p2 := p2) (p1 := r) (fr := fr) (h := h)
    rw [List.cons_append]
    unfold WRun at k ⊢
    cases hw : wantedV fr all o with
    | none => simp only [hw] at k
    | some b =>
      cases b with
      | false =>
        simp only [hw] at k ⊢
        cases hq : fr.put o.dst un with
        | none => simp only [hq] at k
        | some fr' => simp only [hq] at k ⊢; exact ih k
      | true =>
        simp only [hw] at k ⊢
        refine k.mono fun v h' q => ?_
        cases hq : fr.put o.dst v with
        | none => simp only [hq] at q
        | some fr' => simp only [hq] at q ⊢; exact ih q
theorem WRun_two {all : List Oper} {Q M : Fr → H → Prop} (k : Nat) {p : List Oper} {fr : Fr} {h : H} (k1 : WRun E all (p.take k) fr h M) (k2 : ∀ fr h, M fr h → WRun E all (p.drop k) fr h Q) : WRun E all p fr h Q := by
  rw [← List.take_append_drop k p]; exact WRun_cat (WRun_mono k2 k1)
end
end Go.Ev
