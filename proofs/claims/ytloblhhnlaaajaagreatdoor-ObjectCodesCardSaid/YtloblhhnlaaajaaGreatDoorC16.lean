/- Walks: the writer's texts, sealed, begin; bits. -/
import Derived.Test.YtloblhhnlaaajaaGreatDoorB13
import Derived.Test.YtloblhhnlaaajaaGreatDoorC14
set_option linter.unusedVariables false
set_option linter.unusedSimpArgs false
set_option linter.defProp false
set_option linter.unusedSimpArgs false
namespace Go.Proofs.OP
open Go Go.Ev
open Go.Proofs
open Nat (reduceLT reduceEqDiff)
variable {g : T (List V)}

def txtB (L : List (List UInt8)) : List UInt8 := L.flatMap fun s => leB s.length 8 ++ s
theorem txtB_snoc {L : List (List UInt8)} {i : Nat} (hi : i < L.length) : txtB (L.take (i + 1)) = txtB (L.take i) ++ (leB (L[i]).length 8 ++ L[i]) := by
  unfold txtB
  rw [List.take_succ_eq_append_getElem hi, List.flatMap_append, List.flatMap_cons, List.flatMap_nil, List.append_nil]
theorem txtB_length {B : Nat} : ∀ {L : List (List UInt8)}, (∀ p ∈ L, p.length ≤ B) → (txtB L).length ≤ (B + 8) * L.length
  | [], _ => by simp [txtB]
  | p :: r, h => by
    have ih := txtB_length (L := r) fun q hq => h q (List.mem_cons_of_mem _ hq)
    have h0 := h p (List.mem_cons_self ..)
    simp only [txtB, List.flatMap_cons, List.length_append, leB_length, List.length_cons, Nat.mul_succ] at *
    omega

theorem sat_ofStr {h : H} {xs : List UInt8} {Q : V → H → Prop}
    (k : ∀ h', Bs g h' (.slice h.next 0 xs.length (.opn 0 0)) xs → h'.next = h.next + 1 → Fix (· < h.next) h h' → Q (.slice h.next 0 xs.length (.opn 0 0)) h') : Sat1 (r1 (convV (E g) h 9 22 (.str xs))) Q := by
  have e : convV (E g) h 9 22 (.str xs) = some (.slice (row h 5 (xs.map u8) 2).1 0 xs.length (.opn 0 0), (row h 5 (xs.map u8) 2).2) := by
    simp only [convV, ty9, ty22, ty5]; rfl
  rw [e, sat_r1]
  refine k _ ?_ rfl (row_fix fun _ h => h)
  have hb : Has (row h 5 (xs.map u8) 2).2 h.next (xs.map u8) := row_has
  have := Has.sl (E := E g) (n := xs.length) (sz := 1) hb (by simp)
  obtain ⟨q1, q2, q3, q4⟩ := this
  exact ⟨rfl, q2, (fun _ e => by cases e), (fun _ _ _ _ e => by cases e), (fun _ _ _ e => by cases e)⟩

set_option maxRecDepth 100000 in
set_option maxHeartbeats 4000000 in
theorem texts_ok {h : H} {S : Nat → Prop} {wb : Nat} {xs : List UInt8} {ls : V} {L : List (List UInt8)} (w : Wr g h S wb xs) (hwb : wb < h.next) (hl : Ss g h ls L) (hin : In (fun b => b < h.next ∧ b ≠ wb ∧ ¬ S b) ls)
    (hb : ∀ p ∈ L, p.length ≤ 2 ^ 20) (hS : ∀ b, S b → b < h.next) (hL : L.length ≤ 2 ^ 12) (hx : xs.length ≤ 2 ^ 36) :
    WF (E g) 47 [.ptr wb 0, ls] h fun _ h' => Wr g h' (fun b => S b ∨ h.next ≤ b) wb (xs ++ txtB L) ∧ Fix (fun b => b < h.next ∧ b ≠ wb ∧ ¬ S b) h h' := by
  refine WF.enter fn47 rfl ?_
  ((repeat refine WC.seq ?_); refine WC.run ?_)
  (try simp only [wk, wl, wx, reduceLT, reduceEqDiff, Nat.reduceBEq, reduceIte, Sl.lenB hl ty25 rfl])
  (repeat refine WC.seq ?_)
  refine WC.block ?_
  refine WC.while (fun m fr hh => ∃ ts i, fr = ⟨ts, 18, [], 47, none⟩ ∧ Fix (fun b => b < h.next ∧ b ≠ wb ∧ ¬ S b) h hh ∧ m = L.length - i ∧ i ≤ L.length ∧ ts.get 0 = some (.ptr wb 0) ∧ ts.get 6 = some ls ∧ ts.get 7 = some (.int .i64 L.length) ∧ ts.get 8 = some (.int .i64 i) ∧ Wr g hh (fun b => S b ∨ h.next ≤ b) wb (xs ++ txtB (L.take i))) ?_ ⟨_, 0, rfl, Fix.refl _ _, rfl, by omega, ?_, ?_, ?_, ?_, ?_⟩
  · rintro m fr hh ⟨ts, i, rfl, ff, rfl, hi, t0, t6, t7, t8, wr⟩
    have xh := ff.next
    ((repeat refine WC.seq ?_); refine WC.run ?_)
    (try simp only [wk, wl, wx, reduceLT, reduceEqDiff, Nat.reduceBEq, reduceIte, t7, t8])
    (repeat refine WC.seq ?_)
    by_cases hlt : i < L.length
    · refine WC.cond (b := true) (by (try simp only [wk, wl, wx, reduceLT, reduceEqDiff, Nat.reduceBEq, reduceIte]); (try simp); (try omega)) (WC.skip ?_)
      (try simp only [wk, wl, wx, reduceLT, reduceEqDiff, Nat.reduceBEq, reduceIte])
      obtain ⟨p, p1, p2⟩ := hl.at ty25 rfl ty9 rfl rfl hlt
      have p2 := p2 hh fun b o m c e => ff.same b (hin _ _ _ _ e)
      have hdl := hb _ (List.getElem_mem hlt)
      have hlen : (txtB (L.take i)).length ≤ (2 ^ 20 + 8) * 2 ^ 12 := by
        refine Nat.le_trans (txtB_length fun q hq => hb q (List.mem_of_mem_take hq)) (Nat.mul_le_mul_left _ (by simp; omega))
      (repeat refine WC.seq ?_)
      refine WC.block ?_
      ((repeat refine WC.seq ?_); refine WC.run ?_)
      (try simp only [wk, wl, wx, reduceLT, reduceEqDiff, Nat.reduceBEq, reduceIte, t6, t8, p1, p2])
      ((repeat refine WC.seq ?_); refine WC.run ?_)
      (try simp only [wk, wl, wx, reduceLT, reduceEqDiff, Nat.reduceBEq, reduceIte, t0])
      refine sat_ofStr ?_
      intro h1 b1 n1 f1
      (try simp only [wk, wl, wx, reduceLT, reduceEqDiff, Nat.reduceBEq, reduceIte, t0])
      refine sat_slice1 ty182 rfl ty22 rfl rfl rfl ?_
      intro h2 b2 n2 f2
      have s2 : Vs (E g) h2 (fun p => p.1) (.slice h1.next 0 1 (.lit 1)) [((V.slice hh.next 0 (L[i]).length (.opn 0 0)), L[i])] := b2.sl
      have w1 : Wr g h2 (fun b => S b ∨ (h.next ≤ b ∧ b < hh.next)) wb (xs ++ txtB (L.take i)) := ((wr.sub (S' := fun b => S b ∨ (h.next ≤ b ∧ b < hh.next)) fun b hb' hs => hs.imp id fun q => ⟨q, hb'⟩).fix f1 (by omega) fun b hb' _ => hb').fix f2 (by omega) fun b hb' _ => hb'
      have b12 : Bs g h2 (.slice hh.next 0 (L[i]).length (.opn 0 0)) L[i] := Sl.fix b1 (K := (· < h1.next)) (fun b o n c e => by injection e with e; omega) f2
      (try simp only [wk, wl, wx, reduceLT, reduceEqDiff, Nat.reduceBEq, reduceIte, t0])
      refine (bytes_ok w1 (by omega) s2 (fun b o n c e => by
          injection e with e; subst e
          exact ⟨by omega, by omega, fun q => q.elim (fun q => by have := hS _ q; omega) fun q => by omega⟩)
        (fun q hq => by
          rw [List.mem_singleton] at hq; subst hq
          refine ⟨b12, fun b o n c e => ?_, by show (L[i]).length ≤ _; omega⟩
          injection e with e; subst e
          exact ⟨by omega, by omega, fun q => q.elim (fun q => by have := hS _ q; omega) fun q => by omega⟩)
        (fun b q => q.elim (fun q => by have := hS _ q; omega) fun q => by omega) (by simp) (by simp; omega)).mono fun v h3 ⟨w3, f3⟩ => ?_
      have x3 := f3.next
      (try simp only [wk, wl, wx, reduceLT, reduceEqDiff, Nat.reduceBEq, reduceIte])
      ((repeat refine WC.seq ?_); refine WC.run ?_)
      (try simp only [wk, wl, wx, reduceLT, reduceEqDiff, Nat.reduceBEq, reduceIte, t8, bin_add])
      refine ⟨_, ?_, _, i + 1, rfl, ⟨by omega, fun c hc => ?_⟩, rfl, by omega, ?_⟩
      · omega
      · rw [f3.same c ⟨by omega, hc.2.1, fun q => q.elim hc.2.2 fun q => by omega⟩, f2.same c (by omega), f1.same c (by omega), ff.same c hc]
      (try simp only [wk, wl, wx, reduceLT, reduceEqDiff, Nat.reduceBEq, reduceIte, t0, t6, t7])
      refine ⟨trivial, trivial, trivial, ?_, ?_⟩
      · rw [wrap64 (by omega) (by omega)]; rfl
      · have := w3.sub (S' := fun b => S b ∨ h.next ≤ b) fun b _ hs => by
          rcases hs with (q | q) | q
          · exact .inl q
          · exact .inr q.1
          · exact .inr (by omega)
        rw [txtB_snoc hlt, ← List.append_assoc]
        simpa [bytB] using this
    · refine WC.cond (b := false) (by (try simp only [wk, wl, wx, reduceLT, reduceEqDiff, Nat.reduceBEq, reduceIte]); (try simp); (try omega)) (WC.exit ?_)
      have : i = L.length := by omega
      subst this
      rw [List.take_length] at wr
      (try simp only [wk, wl, wx, reduceLT, reduceEqDiff, Nat.reduceBEq, reduceIte])
      exact ⟨wr, ff⟩
  all_goals (try simp only [wk, wl, wx, reduceLT, reduceEqDiff, Nat.reduceBEq, reduceIte])
  all_goals (first | trivial | rfl | (simp; done) | skip)
  · exact (by simpa [txtB] using w.sub fun b _ hb => .inl hb)
end Go.Proofs.OP

set_option linter.unusedSimpArgs false
namespace Go.Proofs.OP
open Go Go.Ev
open Go.Proofs
open Nat (reduceLT reduceEqDiff)
variable {g : T (List V)}

def sealB (xs : List UInt8) : List UInt8 := xs ++ leB (sumN xs % 4294967296) 4
set_option maxRecDepth 100000 in
set_option maxHeartbeats 4000000 in
theorem sealed_ok {h : H} {S : Nat → Prop} {wb : Nat} {xs : List UInt8} (w : Wr g h S wb xs) (hwb : wb < h.next) (hx : xs.length ≤ 2 ^ 38) :
    WF (E g) 51 [.ptr wb 0] h fun v h' => BufB g h' v (sealB xs) ∧ In (fun b => (S b ∨ h.next ≤ b) ∧ b ≠ wb ∧ b < h'.next) v ∧ Fix (fun b => b < h.next ∧ ¬ S b) h h' := by
  obtain ⟨s, a1, a2, a3⟩ := w
  refine WF.enter fn51 rfl ?_
  ((repeat refine WC.seq ?_); refine WC.run ?_)
  (try simp only [wk, wl, wx, reduceLT, reduceEqDiff, Nat.reduceBEq, reduceIte])
  ((repeat refine WC.seq ?_); refine WC.draw (plans := pl51_1) (by kernel_rfl) ?_; simp only [pl51_1, List.mem_cons, List.not_mem_nil, or_false, forall_eq_or_imp, forall_eq])
  (try simp (maxSteps := 2000000) only [wk, wl, wx, reduceLT, reduceEqDiff, Nat.reduceBEq, reduceIte, wd, Chk, and_true, true_and, fa181_0, Nat.zero_add, a1.at ty22 rfl])
  refine le_ok.mono fun v h1 ⟨e1, f1⟩ => ?_
  subst e1
  have x1 := f1.next
  have c1 := a1.fix f1 (by omega)
  have gr := BufB.kept a2 (a3.sub fun b hb => hb.2.2) f1
  (try simp (maxSteps := 2000000) only [wk, wl, wx, reduceLT, reduceEqDiff, Nat.reduceBEq, reduceIte, wd, Chk, and_true, true_and, fa181_0, Nat.zero_add, c1.at ty22 rfl])
  refine (sum_ok gr.buf.sl (by omega)).mono fun v h2 ⟨e2, e2'⟩ => ?_
  subst e2 e2'
  (try simp (maxSteps := 2000000) only [wk, wl, wx, reduceLT, reduceEqDiff, Nat.reduceBEq, reduceIte, wd, Chk, and_true, true_and, fa181_0, Nat.zero_add, c1.at ty22 rfl])
  refine (app32_ok gr.buf gr.low (Nat.mod_lt _ (by decide)) (by omega)).mono fun v h3 g3 => ?_
  have g3' := gr.trans g3
  (try simp (maxSteps := 2000000) only [wk, wl, wx, reduceLT, reduceEqDiff, Nat.reduceBEq, reduceIte, wd, Chk, and_true, true_and])
  refine WC.ret ?_
  (try simp only [wk, wl, wx, reduceLT, reduceEqDiff, Nat.reduceBEq, reduceIte])
  refine ⟨g3'.buf, fun b o n c e => ?_, ⟨g3'.fix.next, fun c hc => g3'.fix.same c ⟨hc.1, fun o m cc e => hc.2 (a3 _ _ _ _ e).1⟩⟩⟩
  have q1 := g3'.low _ _ _ _ e
  rcases g3'.own _ _ _ _ e with q | ⟨o, k, c, q⟩
  · exact ⟨.inr q, by omega, q1⟩
  · have := a3 _ _ _ _ q; exact ⟨.inl this.1, this.2.1, q1⟩
end Go.Proofs.OP
