/- Walks: reloc, Contains. -/
import Derived.Test.YtloblhhnlaaajaaGreatDoorW15
import Derived.Test.YtloblhhnlaaajaaGreatDoorW18
set_option linter.unusedVariables false
set_option linter.unusedSimpArgs false
set_option linter.defProp false
set_option linter.unusedSimpArgs false
namespace Go.Proofs.OP
open Go Go.Ev
open Go.Proofs
open Nat (reduceLT reduceEqDiff)
variable {g : T (List V)}

theorem indexS_ok {h : H} {s : V} {L : List (List UInt8)} {k : List UInt8} (a : Ss g h s L) (hM : L.length < 2 ^ 62) :
    WF (E g) 95 [s, .str k] h fun v h' => (∃ n : Int, v = .int .i64 n ∧ decide (0 ≤ n) = L.contains k) ∧ h' = h := by
  refine WF.enter fn95 rfl ?_
  ((repeat refine WC.seq ?_); refine WC.run ?_)
  (try simp only [wk, wl, wx, reduceLT, reduceEqDiff, Nat.reduceBEq, reduceIte])
  ((repeat refine WC.seq ?_); refine WC.run ?_)
  (try simp only [wk, wl, wx, reduceLT, reduceEqDiff, Nat.reduceBEq, reduceIte, Sl.lenB a ty25 rfl])
  (repeat refine WC.seq ?_)
  refine WC.block ?_
  refine WC.while (fun m fr hh => ∃ ts i, fr = ⟨ts, 19, [], 95, none⟩ ∧ hh = h ∧ m = L.length - i ∧ i ≤ L.length ∧ ts.get 0 = some s ∧ ts.get 1 = some (.str k) ∧ ts.get 7 = some (.int .i64 L.length) ∧ ts.get 8 = some (.int .i64 i) ∧ (L.take i).contains k = false) ?_ ⟨_, 0, rfl, rfl, rfl, by omega, ?_, ?_, ?_, ?_, ?_⟩
  · rintro m fr hh ⟨ts, i, rfl, rfl, rfl, hi, t0, t1, t7, t8, hno⟩
    ((repeat refine WC.seq ?_); refine WC.run ?_)
    (try simp only [wk, wl, wx, reduceLT, reduceEqDiff, Nat.reduceBEq, reduceIte, t7, t8])
    (repeat refine WC.seq ?_)
    by_cases hlt : i < L.length
    · refine WC.cond (b := true) (by (try simp only [wk, wl, wx, reduceLT, reduceEqDiff, Nat.reduceBEq, reduceIte]); (try simp); (try omega)) (WC.skip ?_)
      (try simp only [wk, wl, wx, reduceLT, reduceEqDiff, Nat.reduceBEq, reduceIte])
      obtain ⟨p, p1, p2⟩ := a.at ty25 rfl ty9 rfl rfl hlt
      have p2 := p2 hh fun _ _ _ _ _ => rfl
      (repeat refine WC.seq ?_)
      refine WC.block ?_
      ((repeat refine WC.seq ?_); refine WC.run ?_)
      (try simp only [wk, wl, wx, reduceLT, reduceEqDiff, Nat.reduceBEq, reduceIte, t8])
      ((repeat refine WC.seq ?_); refine WC.run ?_)
      (try simp only [wk, wl, wx, reduceLT, reduceEqDiff, Nat.reduceBEq, reduceIte, t0, t1, p1, p2, bin_seql])
      (repeat refine WC.seq ?_)
      cases hb : (k == L[i]) with
      | true =>
        refine WC.cond (b := true) (by (try simp only [wk, wl, wx, reduceLT, reduceEqDiff, Nat.reduceBEq, reduceIte, hb]); (try simp); (try omega)) ?_
        ((repeat refine WC.seq ?_); refine WC.run ?_)
        (try simp only [wk, wl, wx, reduceLT, reduceEqDiff, Nat.reduceBEq, reduceIte])
        refine WC.ret ?_
        (try simp only [wk, wl, wx, reduceLT, reduceEqDiff, Nat.reduceBEq, reduceIte])
        refine ⟨⟨_, rfl, ?_⟩, by trivial⟩
        have : L.contains k = true := by
          rw [List.contains_iff_mem, eq_of_beq hb]
          exact List.getElem_mem hlt
        rw [this]; simp
      | false =>
        refine WC.cond (b := false) (by (try simp only [wk, wl, wx, reduceLT, reduceEqDiff, Nat.reduceBEq, reduceIte, hb]); (try simp); (try omega)) (WC.skip ?_)
        (try simp only [wk, wl, wx, reduceLT, reduceEqDiff, Nat.reduceBEq, reduceIte])
        ((repeat refine WC.seq ?_); refine WC.run ?_)
        (try simp only [wk, wl, wx, reduceLT, reduceEqDiff, Nat.reduceBEq, reduceIte, t8, bin_add])
        refine ⟨_, ?_, _, i + 1, rfl, by trivial, rfl, by omega, ?_⟩
        · omega
        (try simp only [wk, wl, wx, reduceLT, reduceEqDiff, Nat.reduceBEq, reduceIte, t0, t1, t7])
        refine ⟨trivial, trivial, trivial, ?_, ?_⟩
        · rw [wrap64 (by omega) (by omega)]; rfl
        · rw [List.take_succ_eq_append_getElem hlt, List.contains_eq_any_beq, List.any_append, ← List.contains_eq_any_beq, hno]
          simp only [List.any_cons, List.any_nil, Bool.or_false, Bool.false_or, hb]
    · refine WC.cond (b := false) (by (try simp only [wk, wl, wx, reduceLT, reduceEqDiff, Nat.reduceBEq, reduceIte]); (try simp); (try omega)) (WC.exit ?_)
      have : i = L.length := by omega
      subst this
      (try simp only [wk, wl, wx, reduceLT, reduceEqDiff, Nat.reduceBEq, reduceIte])
      ((repeat refine WC.seq ?_); refine WC.run ?_)
      (try simp only [wk, wl, wx, reduceLT, reduceEqDiff, Nat.reduceBEq, reduceIte])
      rw [List.take_length] at hno
      refine WC.ret ?_
      (try simp only [wk, wl, wx, reduceLT, reduceEqDiff, Nat.reduceBEq, reduceIte])
      exact ⟨⟨_, rfl, by rw [hno]; rfl⟩, by trivial⟩
  all_goals (try simp only [wk, wl, wx, reduceLT, reduceEqDiff, Nat.reduceBEq, reduceIte])
  all_goals simp
theorem containsS_ok {h : H} {s : V} {L : List (List UInt8)} {k : List UInt8} (a : Ss g h s L) (hM : L.length < 2 ^ 62) :
    WF (E g) 42 [s, .str k] h fun v h' => v = .bool (L.contains k) ∧ h' = h := by
  refine WF.enter fn42 rfl ?_
  ((repeat refine WC.seq ?_); refine WC.run ?_)
  (try simp only [wk, wl, wx, reduceLT, reduceEqDiff, Nat.reduceBEq, reduceIte])
  ((repeat refine WC.seq ?_); refine WC.run ?_)
  (try simp only [wk, wl, wx, reduceLT, reduceEqDiff, Nat.reduceBEq, reduceIte])
  refine (indexS_ok a hM).mono fun v h1 ⟨⟨n, e, hk⟩, f1⟩ => ?_
  subst e f1
  (try simp only [wk, wl, wx, reduceLT, reduceEqDiff, Nat.reduceBEq, reduceIte])
  (repeat refine WC.seq ?_)
  refine WC.ret ?_
  (try simp only [wk, wl, wx, reduceLT, reduceEqDiff, Nat.reduceBEq, reduceIte])
  exact ⟨by rw [hk], by trivial⟩
end Go.Proofs.OP

set_option linter.unusedSimpArgs false
namespace Go.Proofs.OP
open Go Go.Ev
open Go.Proofs
open Nat (reduceLT reduceEqDiff)
variable {g : T (List V)}

abbrev Is (g : T (List V)) (h : H) (s : V) (L : List Int) : Prop := Vs (E g) h i64 s L
def Wr (g : T (List V)) (h : H) (S : Nat → Prop) (wb : Nat) (xs : List UInt8) : Prop := ∃ s, Has h wb [s] ∧ BufB g h s xs ∧ In (fun b => S b ∧ b ≠ wb ∧ b < h.next) s
theorem Wr.sub {h : H} {S S' : Nat → Prop} {wb : Nat} {xs : List UInt8} (w : Wr g h S wb xs) (hs : ∀ b, b < h.next → S b → S' b) : Wr g h S' wb xs := by
  obtain ⟨s, a1, a2, a3⟩ := w
  exact ⟨s, a1, a2, a3.sub fun b hb => ⟨hs b hb.2.2 hb.1, hb.2.1, hb.2.2⟩⟩
theorem Wr.fix {h h' : H} {S K : Nat → Prop} {wb : Nat} {xs : List UInt8} (w : Wr g h S wb xs) (f : Fix K h h') (hw : K wb) (hs : ∀ b, b < h.next → S b → K b) : Wr g h' S wb xs := by
  obtain ⟨s, a1, a2, a3⟩ := w
  exact ⟨s, a1.fix f hw, a2.fix (K := K) (a3.sub fun b hb => hs b hb.2.2 hb.1) f, a3.sub fun b hb => ⟨hb.1, hb.2.1, Nat.lt_of_lt_of_le hb.2.2 f.next⟩⟩
def numB (L : List Int) : List UInt8 := L.flatMap fun n => leB (U n) 8
theorem numB_length : ∀ (L : List Int), (numB L).length = 8 * L.length
  | [] => rfl
  | n :: r => by
    have := numB_length r
    simp only [numB, List.flatMap_cons, List.length_append, leB_length, List.length_cons] at *
    omega
theorem numB_snoc {L : List Int} {i : Nat} (hi : i < L.length) : numB (L.take (i + 1)) = numB (L.take i) ++ leB (U L[i]) 8 := by
  unfold numB
  rw [List.take_succ_eq_append_getElem hi, List.flatMap_append, List.flatMap_cons, List.flatMap_nil, List.append_nil]

set_option maxRecDepth 100000 in
set_option maxHeartbeats 4000000 in
theorem numbers_ok {h : H} {S : Nat → Prop} {wb : Nat} {xs : List UInt8} {ls : V} {L : List Int} (w : Wr g h S wb xs) (hwb : wb < h.next) (hl : Is g h ls L) (hin : In (fun b => b < h.next ∧ b ≠ wb ∧ ¬ S b) ls) (hx : xs.length + 8 * L.length ≤ 2 ^ 38) :
    WF (E g) 49 [.ptr wb 0, ls] h fun _ h' => Wr g h' (fun b => S b ∨ h.next ≤ b) wb (xs ++ numB L) ∧ Fix (fun b => b < h.next ∧ b ≠ wb ∧ ¬ S b) h h' := by
  refine WF.enter fn49 rfl ?_
  ((repeat refine WC.seq ?_); refine WC.run ?_)
  (try simp only [wk, wl, wx, reduceLT, reduceEqDiff, Nat.reduceBEq, reduceIte, Sl.lenB hl ty183 rfl])
  (repeat refine WC.seq ?_)
  refine WC.block ?_
  refine WC.while (fun m fr hh => ∃ ts i, fr = ⟨ts, 24, [], 49, none⟩ ∧ Fix (fun b => b < h.next ∧ b ≠ wb ∧ ¬ S b) h hh ∧ m = L.length - i ∧ i ≤ L.length ∧ ts.get 0 = some (.ptr wb 0) ∧ ts.get 6 = some ls ∧ ts.get 7 = some (.int .i64 L.length) ∧ ts.get 8 = some (.int .i64 i) ∧ Wr g hh (fun b => S b ∨ h.next ≤ b) wb (xs ++ numB (L.take i))) ?_ ⟨_, 0, rfl, Fix.refl _ _, rfl, by omega, ?_, ?_, ?_, ?_, ?_⟩
  · rintro m fr hh ⟨ts, i, rfl, ff, rfl, hi, t0, t6, t7, t8, wr⟩
    have xh := ff.next
    obtain ⟨s, a1, a2, a3⟩ := wr
    ((repeat refine WC.seq ?_); refine WC.run ?_)
    (try simp only [wk, wl, wx, reduceLT, reduceEqDiff, Nat.reduceBEq, reduceIte, t7, t8])
    (repeat refine WC.seq ?_)
    by_cases hlt : i < L.length
    · refine WC.cond (b := true) (by (try simp only [wk, wl, wx, reduceLT, reduceEqDiff, Nat.reduceBEq, reduceIte]); (try simp); (try omega)) (WC.skip ?_)
      (try simp only [wk, wl, wx, reduceLT, reduceEqDiff, Nat.reduceBEq, reduceIte])
      obtain ⟨p, p1, p2⟩ := hl.at ty183 rfl ty2 rfl rfl hlt
      have p2 := p2 hh fun b o m c e => ff.same b (hin _ _ _ _ e)
      (repeat refine WC.seq ?_)
      refine WC.block ?_
      ((repeat refine WC.seq ?_); refine WC.run ?_)
      (try simp only [wk, wl, wx, reduceLT, reduceEqDiff, Nat.reduceBEq, reduceIte, t6, t8, p1, p2, i64])
      ((repeat refine WC.seq ?_); refine WC.draw (plans := pl49_3) (by kernel_rfl) ?_; simp only [pl49_3, List.mem_cons, List.not_mem_nil, or_false, forall_eq_or_imp, forall_eq])
      (try simp (maxSteps := 2000000) only [wk, wl, wx, reduceLT, reduceEqDiff, Nat.reduceBEq, reduceIte, wd, Chk, and_true, true_and, t0, fa181_0, Nat.zero_add, a1.at ty22 rfl, conv_int ty2 ty188 rfl, wrapu64_U])
      refine le_ok.mono fun v h1 ⟨e1, f1⟩ => ?_
      subst e1
      have x1 := f1.next
      have c1 := a1.fix f1 (by omega)
      have gr := BufB.kept a2 (a3.sub fun b hb => hb.2.2) f1
      (try simp (maxSteps := 2000000) only [wk, wl, wx, reduceLT, reduceEqDiff, Nat.reduceBEq, reduceIte, wd, Chk, and_true, true_and, t0, fa181_0, Nat.zero_add, c1.at ty22 rfl, conv_int ty2 ty188 rfl, wrapu64_U])
      have hlen : (numB (L.take i)).length ≤ 8 * L.length := by rw [numB_length]; simp; omega
      refine (app64_ok gr.buf gr.low (U_lt _) (by simp; omega)).mono fun s2 h2 g2 => ?_
      have g2' := gr.trans g2
      have x2 := g2.fix.next
      have c2 := a1.fix g2'.fix ⟨by omega, fun o m cc e => (a3 _ _ _ _ e).2.1 rfl⟩
      (try simp (maxSteps := 2000000) only [wk, wl, wx, reduceLT, reduceEqDiff, Nat.reduceBEq, reduceIte, wd, Chk, and_true, true_and, t0, fa181_0, Nat.zero_add, c2.at ty22 rfl])
      have hc : V.cells s2 = [s2] ∧ V.one s2 = true := by
        have := Sl.len g2'.buf.sl
        unfold lenV at this
        split at this <;> first | exact ⟨rfl, rfl⟩ | cases this
      have in2 : In (fun b => (S b ∨ h.next ≤ b) ∧ b ≠ wb ∧ b < h2.next) s2 := fun b o n c e => by
        have q1 := g2'.low _ _ _ _ e
        rcases g2'.own _ _ _ _ e with q | ⟨o, k, c, q⟩
        · exact ⟨.inr (by omega), by omega, q1⟩
        · have := a3 _ _ _ _ q; exact ⟨this.1, this.2.1, q1⟩
      refine sat_store c2 ty22 (by rw [hc.1]; rfl) (by simp) (by rw [hc.1]; simp [hc.2]) ?_
      intro h3 b3 n3 f3
      rw [hc.1] at b3
      (try simp (maxSteps := 2000000) only [wk, wl, wx, reduceLT, reduceEqDiff, Nat.reduceBEq, reduceIte, wd, Chk, and_true, true_and])
      ((repeat refine WC.seq ?_); refine WC.run ?_)
      (try simp only [wk, wl, wx, reduceLT, reduceEqDiff, Nat.reduceBEq, reduceIte, t8, bin_add])
      refine ⟨_, ?_, _, i + 1, rfl, ⟨by omega, fun c hc => ?_⟩, rfl, by omega, ?_⟩
      · omega
      · rw [f3.same c hc.2.1, g2'.fix.same c ⟨by omega, fun o m cc e => ?_⟩, ff.same c hc]
        rcases (a3 _ _ _ _ e).1 with q | q
        · exact hc.2.2 q
        · omega
      (try simp only [wk, wl, wx, reduceLT, reduceEqDiff, Nat.reduceBEq, reduceIte, t0, t6, t7])
      refine ⟨trivial, trivial, trivial, ?_, s2, b3, ?_, in2.sub fun b hb => ⟨hb.1, hb.2.1, by omega⟩⟩
      · rw [wrap64 (by omega) (by omega)]; rfl
      · have := g2'.buf.fix (K := (· ≠ wb)) (in2.sub fun b hb => hb.2.1) f3
        rw [numB_snoc hlt, ← List.append_assoc]
        exact this
    · refine WC.cond (b := false) (by (try simp only [wk, wl, wx, reduceLT, reduceEqDiff, Nat.reduceBEq, reduceIte]); (try simp); (try omega)) (WC.exit ?_)
      have : i = L.length := by omega
      subst this
      rw [List.take_length] at a2
      (try simp only [wk, wl, wx, reduceLT, reduceEqDiff, Nat.reduceBEq, reduceIte])
      exact ⟨⟨s, a1, a2, a3⟩, ff⟩
  all_goals (try simp only [wk, wl, wx, reduceLT, reduceEqDiff, Nat.reduceBEq, reduceIte])
  all_goals (first | trivial | rfl | (simp; done) | skip)
  · exact (by simpa [numB] using w.sub fun b _ hb => .inl hb)
end Go.Proofs.OP

set_option linter.unusedSimpArgs false
namespace Go.Proofs.OP
open Go Go.Ev
open Go.Proofs
open Nat (reduceLT reduceEqDiff)
variable {g : T (List V)}

def bytB (L : List (V × List UInt8)) : List UInt8 := L.flatMap fun p => leB p.2.length 8 ++ p.2
theorem bytB_snoc {L : List (V × List UInt8)} {i : Nat} (hi : i < L.length) : bytB (L.take (i + 1)) = bytB (L.take i) ++ (leB (L[i]).2.length 8 ++ (L[i]).2) := by
  unfold bytB
  rw [List.take_succ_eq_append_getElem hi, List.flatMap_append, List.flatMap_cons, List.flatMap_nil, List.append_nil]
theorem bytB_length {B : Nat} : ∀ {L : List (V × List UInt8)}, (∀ p ∈ L, p.2.length ≤ B) → (bytB L).length ≤ (B + 8) * L.length
  | [], _ => by simp [bytB]
  | p :: r, h => by
    have ih := bytB_length (L := r) fun q hq => h q (List.mem_cons_of_mem _ hq)
    have h0 := h p (List.mem_cons_self ..)
    simp only [bytB, List.flatMap_cons, List.length_append, leB_length, List.length_cons, Nat.mul_succ] at *
    omega

set_option maxRecDepth 100000 in
set_option maxHeartbeats 4000000 in
theorem bytes_ok {h : H} {S : Nat → Prop} {wb : Nat} {xs : List UInt8} {ls : V} {L : List (V × List UInt8)} (w : Wr g h S wb xs) (hwb : wb < h.next) (hl : Vs (E g) h (fun p => p.1) ls L) (hin : In (fun b => b < h.next ∧ b ≠ wb ∧ ¬ S b) ls)
    (hb : ∀ p ∈ L, Bs g h p.1 p.2 ∧ In (fun b => b < h.next ∧ b ≠ wb ∧ ¬ S b) p.1 ∧ p.2.length ≤ 2 ^ 30) (hS : ∀ b, S b → b < h.next) (hL : L.length ≤ 64) (hx : xs.length ≤ 2 ^ 37) :
    WF (E g) 48 [.ptr wb 0, ls] h fun _ h' => Wr g h' (fun b => S b ∨ h.next ≤ b) wb (xs ++ bytB L) ∧ Fix (fun b => b < h.next ∧ b ≠ wb ∧ ¬ S b) h h' := by
  refine WF.enter fn48 rfl ?_
  ((repeat refine WC.seq ?_); refine WC.run ?_)
  (try simp only [wk, wl, wx, reduceLT, reduceEqDiff, Nat.reduceBEq, reduceIte, Sl.lenB hl ty182 rfl])
  (repeat refine WC.seq ?_)
  refine WC.block ?_
  refine WC.while (fun m fr hh => ∃ ts i, fr = ⟨ts, 27, [], 48, none⟩ ∧ Fix (fun b => b < h.next ∧ b ≠ wb ∧ ¬ S b) h hh ∧ m = L.length - i ∧ i ≤ L.length ∧ ts.get 0 = some (.ptr wb 0) ∧ ts.get 6 = some ls ∧ ts.get 7 = some (.int .i64 L.length) ∧ ts.get 8 = some (.int .i64 i) ∧ Wr g hh (fun b => S b ∨ h.next ≤ b) wb (xs ++ bytB (L.take i))) ?_ ⟨_, 0, rfl, Fix.refl _ _, rfl, by omega, ?_, ?_, ?_, ?_, ?_⟩
  · rintro m fr hh ⟨ts, i, rfl, ff, rfl, hi, t0, t6, t7, t8, wr⟩
    have xh := ff.next
    ((repeat refine WC.seq ?_); refine WC.run ?_)
    (try simp only [wk, wl, wx, reduceLT, reduceEqDiff, Nat.reduceBEq, reduceIte, t7, t8])
    (repeat refine WC.seq ?_)
    by_cases hlt : i < L.length
    · refine WC.cond (b := true) (by (try simp only [wk, wl, wx, reduceLT, reduceEqDiff, Nat.reduceBEq, reduceIte]); (try simp); (try omega)) (WC.skip ?_)
      (try simp only [wk, wl, wx, reduceLT, reduceEqDiff, Nat.reduceBEq, reduceIte])
      obtain ⟨p, p1, p2⟩ := hl.at ty182 rfl ty22 rfl rfl hlt
      have p2 := p2 hh fun b o m c e => ff.same b (hin _ _ _ _ e)
      obtain ⟨hd, hdi, hdl⟩ := hb _ (List.getElem_mem hlt)
      have hd1 : Bs g hh (L[i]).1 (L[i]).2 := Sl.fix hd hdi ff
      have hlen : (bytB (L.take i)).length ≤ (2 ^ 30 + 8) * 64 := by
        refine Nat.le_trans (bytB_length fun q hq => (hb q (List.mem_of_mem_take hq)).2.2) (Nat.mul_le_mul_left _ (by simp; omega))
      (repeat refine WC.seq ?_)
      refine WC.block ?_
      ((repeat refine WC.seq ?_); refine WC.run ?_)
      (try simp only [wk, wl, wx, reduceLT, reduceEqDiff, Nat.reduceBEq, reduceIte, t6, t8, p1, p2])
      ((repeat refine WC.seq ?_); refine WC.run ?_)
      (try simp only [wk, wl, wx, reduceLT, reduceEqDiff, Nat.reduceBEq, reduceIte, t0, hd1.len])
      refine sat_slice1 ty183 rfl ty2 rfl rfl rfl ?_
      intro h1 b1 n1 f1
      have s1 : Is g h1 (.slice hh.next 0 1 (.lit 1)) [((L[i]).2.length : Int)] := b1.sl
      have w1 : Wr g h1 (fun b => S b ∨ (h.next ≤ b ∧ b < hh.next)) wb (xs ++ bytB (L.take i)) := (wr.sub (S' := fun b => S b ∨ (h.next ≤ b ∧ b < hh.next)) fun b hb' hs => hs.imp id fun q => ⟨q, hb'⟩).fix f1 (by omega) fun b hb' _ => hb'
      (try simp only [wk, wl, wx, reduceLT, reduceEqDiff, Nat.reduceBEq, reduceIte, t0])
      have hn1 : ¬ S hh.next ∧ hh.next ≠ wb := ⟨fun q => by have := hS _ q; omega, by omega⟩
      refine (numbers_ok w1 (by omega) s1 (fun b o n c e => by injection e with e; subst e; exact ⟨by omega, hn1.2, fun q => q.elim hn1.1 fun q => by omega⟩) (by simp; omega)).mono fun v h2 ⟨w2, f2⟩ => ?_
      have x2 := f2.next
      obtain ⟨s, a1, a2, a3⟩ := w2
      have e8 : numB [((L[i]).2.length : Int)] = leB (L[i]).2.length 8 := by
        simp only [numB, List.flatMap_cons, List.flatMap_nil, List.append_nil]; rw [U_nat (by omega)]
      rw [e8] at a2
      have F2 : Fix (fun b => b < h.next ∧ b ≠ wb ∧ ¬ S b) h h2 := ⟨by omega, fun c hc => by
        rw [f2.same c ⟨by omega, hc.2.1, fun q => q.elim hc.2.2 fun q => by omega⟩, f1.same c (by omega), ff.same c hc]⟩
      have hd2 : Bs g h2 (L[i]).1 (L[i]).2 := Sl.fix hd hdi F2
      (try simp only [wk, wl, wx, reduceLT, reduceEqDiff, Nat.reduceBEq, reduceIte])
      ((repeat refine WC.seq ?_); refine WC.run ?_)
      (try simp only [wk, wl, wx, reduceLT, reduceEqDiff, Nat.reduceBEq, reduceIte, t0, fa181_0, Nat.zero_add, a1.at ty22 rfl])
      refine app_ok (h0 := h2) (Grew.refl a2 (a3.sub fun b hb => hb.2.2)) ty22 (.inl ⟨_, rfl⟩) (Sl.len hd2) (Sl.cells hd2) (by simp [leB_length]; omega) ?_
      intro s3 h3 g3 f3
      have x3 := g3.fix.next
      have c3 := a1.fix g3.fix ⟨by omega, fun o m cc e => (a3 _ _ _ _ e).2.1 rfl⟩
      (try simp only [wk, wl, wx, reduceLT, reduceEqDiff, Nat.reduceBEq, reduceIte, t0, fa181_0, Nat.zero_add])
      have hc : V.cells s3 = [s3] ∧ V.one s3 = true := by
        have := Sl.len g3.buf.sl
        unfold lenV at this
        split at this <;> first | exact ⟨rfl, rfl⟩ | cases this
      have in3 : In (fun b => (S b ∨ h.next ≤ b) ∧ b ≠ wb ∧ b < h3.next) s3 := fun b o n c e => by
        have q1 := g3.low _ _ _ _ e
        rcases g3.own _ _ _ _ e with q | ⟨o, k, c, q⟩
        · exact ⟨.inr (by omega), by omega, q1⟩
        · have := a3 _ _ _ _ q
          refine ⟨?_, this.2.1, q1⟩
          rcases this.1 with (q | q) | q
          · exact .inl q
          · exact .inr q.1
          · exact .inr (by omega)
      refine sat_store c3 ty22 (by rw [hc.1]; rfl) (by simp) (by rw [hc.1]; simp [hc.2]) ?_
      intro h4 b4 n4 f4
      rw [hc.1] at b4
      (try simp only [wk, wl, wx, reduceLT, reduceEqDiff, Nat.reduceBEq, reduceIte])
      ((repeat refine WC.seq ?_); refine WC.run ?_)
      (try simp only [wk, wl, wx, reduceLT, reduceEqDiff, Nat.reduceBEq, reduceIte, t8, bin_add])
      refine ⟨_, ?_, _, i + 1, rfl, ⟨by omega, fun c hc => ?_⟩, rfl, by omega, ?_⟩
      · omega
      · rw [f4.same c hc.2.1, g3.fix.same c ⟨by omega, fun o m cc e => ?_⟩, F2.same c hc]
        rcases (a3 _ _ _ _ e).1 with (q | q) | q
        · exact hc.2.2 q
        · omega
        · omega
      (try simp only [wk, wl, wx, reduceLT, reduceEqDiff, Nat.reduceBEq, reduceIte, t0, t6, t7])
      refine ⟨trivial, trivial, trivial, ?_, s3, b4, ?_, in3.sub fun b hb => ⟨hb.1, hb.2.1, by omega⟩⟩
      · rw [wrap64 (by omega) (by omega)]; rfl
      · have := g3.buf.fix (K := (· ≠ wb)) (in3.sub fun b hb => hb.2.1) f4
        rw [bytB_snoc hlt]
        simpa only [List.append_assoc] using this
    · refine WC.cond (b := false) (by (try simp only [wk, wl, wx, reduceLT, reduceEqDiff, Nat.reduceBEq, reduceIte]); (try simp); (try omega)) (WC.exit ?_)
      have : i = L.length := by omega
      subst this
      rw [List.take_length] at wr
      (try simp only [wk, wl, wx, reduceLT, reduceEqDiff, Nat.reduceBEq, reduceIte])
      exact ⟨wr, ff⟩
  all_goals (try simp only [wk, wl, wx, reduceLT, reduceEqDiff, Nat.reduceBEq, reduceIte])
  all_goals (first | trivial | rfl | (simp; done) | skip)
  · exact (by simpa [bytB] using w.sub fun b _ hb => .inl hb)
end Go.Proofs.OP

set_option linter.unusedSimpArgs false
namespace Go.Proofs.OP
open Go Go.Ev
open Go.Proofs
open Nat (reduceLT reduceEqDiff)
variable {g : T (List V)}

def txtB (L : List (List UInt8)) : List UInt8 := L.flatMap fun s => leB s.length 8 ++ s
theorem txtB_snoc {L : List (List UInt8)} {i : Nat} (hi : i < L.length) : txtB (L.take (i + 1)) = txtB (L.take i) ++ (leB (L[i]).length 8 ++ L[i]) := by
  unfold txtB
  rw [List.take_succ_eq_append_getElem hi, List.flatMap_append, List.flatMap_cons, List.flatMap_nil, List.append_nil]
theorem txtB_length {B : Nat} : ∀ {L : List (List UInt8)}, (∀ p ∈ L, p.length ≤ B) → (txtB L).length ≤ (B + 8) * L.length
  | [], _ => by simp [txtB]
  | p :: r, h => by
    have ih := txtB_length (L := r) fun q hq => h q (List.mem_cons_of_mem _ hq)
    have h0 := h p (List.mem_cons_self ..)
    simp only [txtB, List.flatMap_cons, List.length_append, leB_length, List.length_cons, Nat.mul_succ] at *
    omega

theorem sat_ofStr {h : H} {xs : List UInt8} {Q : V → H → Prop}
    (k : ∀ h', Bs g h' (.slice h.next 0 xs.length (.opn 0 0)) xs → h'.next = h.next + 1 → Fix (· < h.next) h h' → Q (.slice h.next 0 xs.length (.opn 0 0)) h') : Sat1 (r1 (convV (E g) h 9 22 (.str xs))) Q := by
  have e : convV (E g) h 9 22 (.str xs) = some (.slice (row h 5 (xs.map u8) 2).1 0 xs.length (.opn 0 0), (row h 5 (xs.map u8) 2).2) := by
    simp only [convV, ty9, ty22, ty5]; rfl
  rw [e, sat_r1]
  refine k _ ?_ rfl (row_fix fun _ h => h)
  have hb : Has (row h 5 (xs.map u8) 2).2 h.next (xs.map u8) := row_has
  have := Has.sl (E := E g) (n := xs.length) (sz := 1) hb (by simp)
  obtain ⟨q1, q2, q3, q4⟩ := this
  exact ⟨rfl, q2, (fun _ e => by cases e), (fun _ _ _ _ e => by cases e), (fun _ _ _ e => by cases e)⟩

set_option maxRecDepth 100000 in
set_option maxHeartbeats 4000000 in
theorem texts_ok {h : H} {S : Nat → Prop} {wb : Nat} {xs : List UInt8} {ls : V} {L : List (List UInt8)} (w : Wr g h S wb xs) (hwb : wb < h.next) (hl : Ss g h ls L) (hin : In (fun b => b < h.next ∧ b ≠ wb ∧ ¬ S b) ls)
    (hb : ∀ p ∈ L, p.length ≤ 2 ^ 20) (hS : ∀ b, S b → b < h.next) (hL : L.length ≤ 2 ^ 12) (hx : xs.length ≤ 2 ^ 36) :
    WF (E g) 47 [.ptr wb 0, ls] h fun _ h' => Wr g h' (fun b => S b ∨ h.next ≤ b) wb (xs ++ txtB L) ∧ Fix (fun b => b < h.next ∧ b ≠ wb ∧ ¬ S b) h h' := by
  refine WF.enter fn47 rfl ?_
  ((repeat refine WC.seq ?_); refine WC.run ?_)
  (try simp only [wk, wl, wx, reduceLT, reduceEqDiff, Nat.reduceBEq, reduceIte, Sl.lenB hl ty25 rfl])
  (repeat refine WC.seq ?_)
  refine WC.block ?_
  refine WC.while (fun m fr hh => ∃ ts i, fr = ⟨ts, 18, [], 47, none⟩ ∧ Fix (fun b => b < h.next ∧ b ≠ wb ∧ ¬ S b) h hh ∧ m = L.length - i ∧ i ≤ L.length ∧ ts.get 0 = some (.ptr wb 0) ∧ ts.get 6 = some ls ∧ ts.get 7 = some (.int .i64 L.length) ∧ ts.get 8 = some (.int .i64 i) ∧ Wr g hh (fun b => S b ∨ h.next ≤ b) wb (xs ++ txtB (L.take i))) ?_ ⟨_, 0, rfl, Fix.refl _ _, rfl, by omega, ?_, ?_, ?_, ?_, ?_⟩
  · rintro m fr hh ⟨ts, i, rfl, ff, rfl, hi, t0, t6, t7, t8, wr⟩
    have xh := ff.next
    ((repeat refine WC.seq ?_); refine WC.run ?_)
    (try simp only [wk, wl, wx, reduceLT, reduceEqDiff, Nat.reduceBEq, reduceIte, t7, t8])
    (repeat refine WC.seq ?_)
    by_cases hlt : i < L.length
    · refine WC.cond (b := true) (by (try simp only [wk, wl, wx, reduceLT, reduceEqDiff, Nat.reduceBEq, reduceIte]); (try simp); (try omega)) (WC.skip ?_)
      (try simp only [wk, wl, wx, reduceLT, reduceEqDiff, Nat.reduceBEq, reduceIte])
      obtain ⟨p, p1, p2⟩ := hl.at ty25 rfl ty9 rfl rfl hlt
      have p2 := p2 hh fun b o m c e => ff.same b (hin _ _ _ _ e)
      have hdl := hb _ (List.getElem_mem hlt)
      have hlen : (txtB (L.take i)).length ≤ (2 ^ 20 + 8) * 2 ^ 12 := by
        refine Nat.le_trans (txtB_length fun q hq => hb q (List.mem_of_mem_take hq)) (Nat.mul_le_mul_left _ (by simp; omega))
      (repeat refine WC.seq ?_)
      refine WC.block ?_
      ((repeat refine WC.seq ?_); refine WC.run ?_)
      (try simp only [wk, wl, wx, reduceLT, reduceEqDiff, Nat.reduceBEq, reduceIte, t6, t8, p1, p2])
      ((repeat refine WC.seq ?_); refine WC.run ?_)
      (try simp only [wk, wl, wx, reduceLT, reduceEqDiff, Nat.reduceBEq, reduceIte, t0])
      refine sat_ofStr ?_
      intro h1 b1 n1 f1
      (try simp only [wk, wl, wx, reduceLT, reduceEqDiff, Nat.reduceBEq, reduceIte, t0])
      refine sat_slice1 ty182 rfl ty22 rfl rfl rfl ?_
      intro h2 b2 n2 f2
      have s2 : Vs (E g) h2 (fun p => p.1) (.slice h1.next 0 1 (.lit 1)) [((V.slice hh.next 0 (L[i]).length (.opn 0 0)), L[i])] := b2.sl
      have w1 : Wr g h2 (fun b => S b ∨ (h.next ≤ b ∧ b < hh.next)) wb (xs ++ txtB (L.take i)) := ((wr.sub (S' := fun b => S b ∨ (h.next ≤ b ∧ b < hh.next)) fun b hb' hs => hs.imp id fun q => ⟨q, hb'⟩).fix f1 (by omega) fun b hb' _ => hb').fix f2 (by omega) fun b hb' _ => hb'
      have b12 : Bs g h2 (.slice hh.next 0 (L[i]).length (.opn 0 0)) L[i] := Sl.fix b1 (K := (· < h1.next)) (fun b o n c e => by injection e with e; omega) f2
      (try simp only [wk, wl, wx, reduceLT, reduceEqDiff, Nat.reduceBEq, reduceIte, t0])
      refine (bytes_ok w1 (by omega) s2 (fun b o n c e => by
          injection e with e; subst e
          exact ⟨by omega, by omega, fun q => q.elim (fun q => by have := hS _ q; omega) fun q => by omega⟩)
        (fun q hq => by
          rw [List.mem_singleton] at hq; subst hq
          refine ⟨b12, fun b o n c e => ?_, by show (L[i]).length ≤ _; omega⟩
          injection e with e; subst e
          exact ⟨by omega, by omega, fun q => q.elim (fun q => by have := hS _ q; omega) fun q => by omega⟩)
        (fun b q => q.elim (fun q => by have := hS _ q; omega) fun q => by omega) (by simp) (by simp; omega)).mono fun v h3 ⟨w3, f3⟩ => ?_
      have x3 := f3.next
      (try simp only [wk, wl, wx, reduceLT, reduceEqDiff, Nat.reduceBEq, reduceIte])
      ((repeat refine WC.seq ?_); refine WC.run ?_)
      (try simp only [wk, wl, wx, reduceLT, reduceEqDiff, Nat.reduceBEq, reduceIte, t8, bin_add])
      refine ⟨_, ?_, _, i + 1, rfl, ⟨by omega, fun c hc => ?_⟩, rfl, by omega, ?_⟩
      · omega
      · rw [f3.same c ⟨by omega, hc.2.1, fun q => q.elim hc.2.2 fun q => by omega⟩, f2.same c (by omega), f1.same c (by omega), ff.same c hc]
      (try simp only [wk, wl, wx, reduceLT, reduceEqDiff, Nat.reduceBEq, reduceIte, t0, t6, t7])
      refine ⟨trivial, trivial, trivial, ?_, ?_⟩
      · rw [wrap64 (by omega) (by omega)]; rfl
      · have := w3.sub (S' := fun b => S b ∨ h.next ≤ b) fun b _ hs => by
          rcases hs with (q | q) | q
          · exact .inl q
          · exact .inr q.1
          · exact .inr (by omega)
        rw [txtB_snoc hlt, ← List.append_assoc]
        simpa [bytB] using this
    · refine WC.cond (b := false) (by (try simp only [wk, wl, wx, reduceLT, reduceEqDiff, Nat.reduceBEq, reduceIte]); (try simp); (try omega)) (WC.exit ?_)
      have : i = L.length := by omega
      subst this
      rw [List.take_length] at wr
      (try simp only [wk, wl, wx, reduceLT, reduceEqDiff, Nat.reduceBEq, reduceIte])
      exact ⟨wr, ff⟩
  all_goals (try simp only [wk, wl, wx, reduceLT, reduceEqDiff, Nat.reduceBEq, reduceIte])
  all_goals (first | trivial | rfl | (simp; done) | skip)
  · exact (by simpa [txtB] using w.sub fun b _ hb => .inl hb)
end Go.Proofs.OP
