/- Walks: opened. -/
import Derived.Test.YtloblhhnlaaajaaGreatDoorB13
import Derived.Test.YtloblhhnlaaajaaGreatDoorC22
import Derived.Test.YtloblhhnlaaajaaGreatDoorC18
set_option linter.unusedVariables false
set_option linter.unusedSimpArgs false
set_option linter.defProp false
set_option linter.unusedSimpArgs false
namespace Go.Proofs.OP
open Go Go.Ev
open Go.Proofs
open Nat (reduceLT reduceEqDiff)
variable {g : T (List V)}

def NotG (s : V) : Prop := ∀ a n c, s ≠ .gsl a n c
theorem upto_slice {h : H} {s s' : V} {b : List UInt8} (a : Bs g h s b) (hs : NotG s) (hn : 4 ≤ b.length) (e : sliceV (E g) 22 s none (some (.int .i64 (4 : Nat))) none = some s') (a' : Bs g h s' (b.take 4)) : ∃ bb o c, s' = .slice bb o 4 c := by
  have hl := Sl.len a'
  have hl0 := Sl.len a
  have h4 : (b.take 4).length = 4 := by simp; omega
  rw [h4] at hl
  unfold lenV at hl hl0
  split at hl
  · injection hl with hl; subst hl; exact ⟨_, _, _, rfl⟩
  · exfalso
    split at hl0
    · rename_i bb o n c
      simp only [sliceV, ty22, sizeOf_of ty5, subSlice, optNat, natOf_nat, Option.bind_some, subEnd] at e
      split at e <;> (obtain ⟨_, e⟩ := bif_some e; obtain ⟨_, e⟩ := bif_some e; cases e)
    · exact hs _ _ _ rfl
    · injection hl0 with hl0; omega
    · exact Sl.slice a _ rfl
    · cases hl0
  · cases hl
  · exact absurd rfl (Sl.slice a' _)
  · cases hl

theorem build159 {s : V} (hs : s.cells = [s]) : buildV (E g) 125 [(0, s)] = some (.agg [s, .bool false]) := by
  simp only [buildV, ty125, fillAll, nth, sizeOf_of ty22, hs, List.all_cons, List.all_nil, ty22, ty4, Option.isSome_some, Bool.and_true, Bool.not_true, cond_false]
  rfl
theorem load_mag {h : H} {k : Nat} (hg : g.get 0 = some magG) (hk : k < 2) : loadP (E g) h 178 (.gp 0 (0 + k * 4)) = some (.agg ((magB k).map u8)) := by
  simp only [loadP, loadG, ty178, E_globs, hg]
  match k, hk with
  | 0, _ => rfl
  | 1, _ => rfl
theorem load_arr {h : H} {bb o : Nat} {c : Cp} {xs : List UInt8} (a : Bs g h (.slice bb o 4 c) xs) (hx : xs.length = 4) : loadP (E g) h 178 (.ptr bb o) = some (.agg (xs.map u8)) := by
  have hc := Sl.cells a
  rw [hx] at hc
  simp only [srcCells] at hc
  simp only [show Nat.beq (4 * 1) 0 = false from rfl, cond_false] at hc
  obtain ⟨_, hc⟩ := bif_some hc
  split at hc
  · rename_i t k d e kk hb
    simp only [loadP, loadV, ty178, hb, TI.agg, cond_true]
    have hc : cellsFrom t k d o 4 = some (xs.map u8) := hc
    rw [hc]; rfl
  · cases hc

set_option maxRecDepth 100000 in
set_option maxHeartbeats 8000000 in
theorem opened_ok {h : H} {s : V} {b : List UInt8} {k : Nat} (hg : g.get 0 = some magG) (hk : k < 2) (hb : Bs g h s b) (hs : In (· < h.next) s) (hn : NotG s) (hlen : b.length < 2 ^ 39) :
    WF (E g) 56 [s, .int .i64 k] h fun v h' => Kept h h' ∧ (openE k b ≠ 0 → v = .tuple [.nilp, i64 (openE k b)]) ∧ (openE k b = 0 → ∃ rb, v = .tuple [.ptr rb 0, i64 0] ∧ h.next ≤ rb ∧ rb < h'.next ∧ Rd g h' (· < h.next) rb ⟨inner b, false⟩) := by
  refine WF.enter fn56 rfl ?_
  ((repeat refine WC.seq ?_); refine WC.run ?_)
  (try simp only [wk, wl, wx, reduceLT, reduceEqDiff, Nat.reduceBEq, reduceIte])
  ((repeat refine WC.seq ?_); refine WC.run ?_)
  (try simp only [wk, wl, wx, reduceLT, reduceEqDiff, Nat.reduceBEq, reduceIte, hb.len, bin_sub])
  rw [wrap64 (by omega) (by omega)]
  by_cases h8 : ((b.length : Int) - 4 < 4)
  · have hr : openE k b = 6 := by unfold openE; rw [if_pos (.inl (by omega))]
    ((repeat refine WC.seq ?_); refine WC.draw (plans := pl56_2) (by kernel_rfl) ?_; simp only [pl56_2, List.mem_cons, List.not_mem_nil, or_false, forall_eq_or_imp, forall_eq])
    (try simp (maxSteps := 2000000) only [wk, wl, wx, reduceLT, reduceEqDiff, Nat.reduceBEq, reduceIte, wd, Chk, and_true, true_and, decide_eq_true h8, un])
    (repeat refine WC.seq ?_)
    refine WC.cond (b := true) (by (try simp only [wk, wl, wx, reduceLT, reduceEqDiff, Nat.reduceBEq, reduceIte]); (try simp); (try omega)) ?_
    ((repeat refine WC.seq ?_); refine WC.run ?_)
    (try simp only [wk, wl, wx, reduceLT, reduceEqDiff, Nat.reduceBEq, reduceIte])
    refine WC.ret ?_
    (try simp only [wk, wl, wx, reduceLT, reduceEqDiff, Nat.reduceBEq, reduceIte])
    rw [hr]
    exact ⟨Fix.refl _ _, fun _ => rfl, fun q => by cases q⟩
  · have e4 : ((b.length : Int) - 4) = ((b.length - 4 : Nat) : Int) := by omega
    rw [e4] at h8 ⊢
    obtain ⟨s1, p1, p2, p3⟩ := Bs.from hb (n := b.length - 4) (by omega)
    obtain ⟨s2, q1, q2, q3⟩ := Bs.upto hb (n := b.length - 4) (by omega)
    ((repeat refine WC.seq ?_); refine WC.draw (plans := pl56_2) (by kernel_rfl) ?_; simp only [pl56_2, List.mem_cons, List.not_mem_nil, or_false, forall_eq_or_imp, forall_eq])
    (try simp (maxSteps := 2000000) only [wk, wl, wx, reduceLT, reduceEqDiff, Nat.reduceBEq, reduceIte, wd, Chk, and_true, true_and, decide_eq_false h8, p1, q1, un])
    refine le_ok.mono fun v2 h2 ⟨e2, f2⟩ => ?_
    subst e2
    have x2 := f2.next
    (try simp (maxSteps := 2000000) only [wk, wl, wx, reduceLT, reduceEqDiff, Nat.reduceBEq, reduceIte, wd, Chk, and_true, true_and])
    refine (u32_ok (Sl.fix p2 (p3 _ hs) f2) (p3 _ (hs.sub fun x hx => by omega)) (by simp; omega)).mono fun v3 h3 ⟨e3, f3⟩ => ?_
    subst e3
    have x3 := f3.next
    (try simp (maxSteps := 2000000) only [wk, wl, wx, reduceLT, reduceEqDiff, Nat.reduceBEq, reduceIte, wd, Chk, and_true, true_and])
    have q4 := Sl.fix (Sl.fix q2 (q3 _ hs) f2) (q3 _ (hs.sub fun x hx => by omega)) f3
    refine (sum_ok q4 (by simp; omega)).mono fun v4 h4 ⟨e4', e4''⟩ => ?_
    subst e4' e4''
    (try simp (maxSteps := 2000000) only [wk, wl, wx, reduceLT, reduceEqDiff, Nat.reduceBEq, reduceIte, wd, Chk, and_true, true_and, u32_neq])
    have F14 : Kept h h4 := f2.trans (f3.sub fun x hx => by omega)
    have hb4 := Sl.fix hb hs F14
    have hd8 : ((b.drop (b.length - 4)).take 4) = b.drop (b.length - 4) := List.take_of_length_le (by simp; omega)
    rw [hd8]
    (repeat refine WC.seq ?_)
    by_cases hsum : leN (b.drop (b.length - 4)) = sumN (b.take (b.length - 4)) % 4294967296
    · refine WC.cond (b := false) (by (try simp only [wk, wl, wx, reduceLT, reduceEqDiff, Nat.reduceBEq, reduceIte]); simp [hsum]) (WC.skip ?_)
      (try simp only [wk, wl, wx, reduceLT, reduceEqDiff, Nat.reduceBEq, reduceIte])
      obtain ⟨s3, t1, t2, t3⟩ := Bs.upto hb4 (n := 4) (by omega)
      obtain ⟨bb, o, c, rfl⟩ := upto_slice hb4 hn (by omega) t1 t2
      have t1 : sliceV (E g) 22 s none (some (.int .i64 4)) none = some (.slice bb o 4 c) := t1
      have l4 : (b.take 4).length = 4 := by simp; omega
      have lm : (magB k).length = 4 := by match k with | 0 => rfl | _ + 1 => rfl
      ((repeat refine WC.seq ?_); refine WC.draw (plans := pl56_4) (by kernel_rfl) ?_; simp only [pl56_4, List.mem_cons, List.not_mem_nil, or_false, forall_eq_or_imp, forall_eq])
      (try simp (maxSteps := 2000000) only [wk, wl, wx, reduceLT, reduceEqDiff, Nat.reduceBEq, reduceIte, wd, Chk, and_true, true_and, t1, arrayAt (Nat.le_refl 4), load_arr t2 l4, idx200 hk, load_mag hg hk, neq199 l4 lm])
      (repeat refine WC.seq ?_)
      by_cases hm : b.take 4 = magB k
      · refine WC.cond (b := false) (by (try simp only [wk, wl, wx, reduceLT, reduceEqDiff, Nat.reduceBEq, reduceIte]); simp [hm]) (WC.skip ?_)
        (try simp only [wk, wl, wx, reduceLT, reduceEqDiff, Nat.reduceBEq, reduceIte])
        obtain ⟨s5, u1, u2, u3⟩ := Bs.part hb4 (l := 4) (r := b.length - 4) (by omega) (by omega)
        have u1 : sliceV (E g) 22 s (some (.int .i64 4)) (some (.int .i64 (b.length - 4 : Nat))) none = some s5 := u1
        ((repeat refine WC.seq ?_); refine WC.run ?_)
        (try simp only [wk, wl, wx, reduceLT, reduceEqDiff, Nat.reduceBEq, reduceIte, u1, build159 (Sl.one u2).1])
        refine wop_box (v := .agg [s5, .bool false]) (by (try simp only [wk, wl, wx, reduceLT, reduceEqDiff, Nat.reduceBEq, reduceIte])) ?_
        intro h5 b5 n5 f5
        (try simp only [wk, wl, wx, reduceLT, reduceEqDiff, Nat.reduceBEq, reduceIte])
        refine WC.ret ?_
        (try simp only [wk, wl, wx, reduceLT, reduceEqDiff, Nat.reduceBEq, reduceIte])
        have hr : openE k b = 0 := by unfold openE; rw [if_neg (by rintro (q | q); omega; exact q hsum), if_neg (not_not_intro hm)]
        have K0 : In (· < h.next) s5 := u3 _ hs
        refine ⟨F14.trans (f5.sub fun x hx => by omega), fun q => absurd hr q, fun _ => ⟨_, rfl, by omega, by omega, s5, b5, Sl.fix u2 (K0.sub fun x hx => by omega) f5, K0⟩⟩
      · refine WC.cond (b := true) (by (try simp only [wk, wl, wx, reduceLT, reduceEqDiff, Nat.reduceBEq, reduceIte]); simp [hm]) ?_
        ((repeat refine WC.seq ?_); refine WC.run ?_)
        (try simp only [wk, wl, wx, reduceLT, reduceEqDiff, Nat.reduceBEq, reduceIte])
        refine WC.ret ?_
        (try simp only [wk, wl, wx, reduceLT, reduceEqDiff, Nat.reduceBEq, reduceIte])
        have hr : openE k b = 12 := by unfold openE; rw [if_neg (by rintro (q | q); omega; exact q hsum), if_pos hm]
        rw [hr]
        exact ⟨F14, fun _ => rfl, fun q => by cases q⟩
    · refine WC.cond (b := true) (by (try simp only [wk, wl, wx, reduceLT, reduceEqDiff, Nat.reduceBEq, reduceIte]); simp; omega) ?_
      ((repeat refine WC.seq ?_); refine WC.run ?_)
      (try simp only [wk, wl, wx, reduceLT, reduceEqDiff, Nat.reduceBEq, reduceIte])
      refine WC.ret ?_
      (try simp only [wk, wl, wx, reduceLT, reduceEqDiff, Nat.reduceBEq, reduceIte])
      have hr : openE k b = 6 := by unfold openE; rw [if_pos (.inr hsum)]
      rw [hr]
      exact ⟨F14, fun _ => rfl, fun q => by cases q⟩
end Go.Proofs.OP

set_option linter.unusedSimpArgs false
namespace Go.Proofs.OP
open Go Go.Ev
open Go.Proofs
open Nat (reduceLT reduceEqDiff)
variable {g : T (List V)}

def eachR {σ : Type} (rd : σ → RdS) (step : σ → σ) : Nat → Int → σ → σ
  | 0, _, s => s
  | k + 1, n, s => if 0 < n ∧ (rd s).bad = false then eachR rd step k (n - 1) (step s) else s

set_option maxRecDepth 100000 in
set_option maxHeartbeats 4000000 in
theorem each_ok {σ : Type} {rd : σ → RdS} {step : σ → σ} {Inv : σ → H → Prop} {h : H} {rb f : Nat} {cap : List V} {n : Int} {s : σ} {k : Nat}
    (hnum : WF (E g) 61 [.ptr rb 0] h fun v h' => v = i64 n ∧ Inv s h') (hbad : ∀ s h, Inv s h → ∃ sl, Has h rb [sl, .bool (rd s).bad])
    (hstep : ∀ s h, Inv s h → (rd s).bad = false → WF (E g) f cap h fun _ h' => Inv (step s) h')
    (hdec : ∀ s, (rd s).bad = false → (rd (step s)).bad = true ∨ (rd (step s)).xs.length < (rd s).xs.length) (hk : (rd s).xs.length < k) (hn : n < 2 ^ 63) :
    WF (E g) 59 [.ptr rb 0, .func f [] cap] h fun _ h' => Inv (eachR rd step k n s) h' := by
  refine WF.enter fn59 rfl ?_
  ((repeat refine WC.seq ?_); refine WC.run ?_)
  (try simp only [wk, wl, wx, reduceLT, reduceEqDiff, Nat.reduceBEq, reduceIte])
  refine hnum.mono fun v h1 ⟨e1, i1⟩ => ?_
  subst e1
  (try simp only [wk, wl, wx, reduceLT, reduceEqDiff, Nat.reduceBEq, reduceIte])
  (repeat refine WC.seq ?_)
  refine WC.block ?_
  refine WC.while (fun m fr hh => ∃ ts n' s', fr = ⟨ts, 20, [], 59, none⟩ ∧ Inv s' hh ∧ n' < 2 ^ 63 ∧ ((rd s').bad = false → (rd s').xs.length < m) ∧ eachR rd step k n s = eachR rd step m n' s' ∧ ts.get 0 = some (.ptr rb 0) ∧ ts.get 1 = some (.func f [] cap) ∧ ts.get 4 = some (i64 n')) ?_ ⟨_, n, s, rfl, i1, hn, fun _ => hk, rfl, ?_, ?_, ?_⟩
  · rintro m fr hh ⟨ts, n', s', rfl, ii, hn', hm, he, t0, t1, t4⟩
    obtain ⟨sl, b⟩ := hbad _ _ ii
    have stop (hs : ¬ (0 < n' ∧ (rd s').bad = false)) : Inv (eachR rd step k n s) hh := by
      rw [he]
      cases m with
      | zero => exact ii
      | succ m => rw [eachR, if_neg hs]; exact ii
    ((repeat refine WC.seq ?_); refine WC.run ?_)
    rcases Decidable.em (0 < n') with h0 | h0
    · cases hbd : (rd s').bad with
      | true =>
        rw [hbd] at b
        (try simp only [wk, wl, wx, reduceLT, reduceEqDiff, Nat.reduceBEq, reduceIte, t4, t0, i64, decide_eq_true h0, un, fa125_1, Nat.zero_add, b.at ty4 rfl, Bool.not_true])
        (repeat refine WC.seq ?_)
        refine WC.cond (b := false) (by (try simp only [wk, wl, wx, reduceLT, reduceEqDiff, Nat.reduceBEq, reduceIte]); (try simp); (try omega)) (WC.exit ?_)
        (try simp only [wk, wl, wx, reduceLT, reduceEqDiff, Nat.reduceBEq, reduceIte])
        exact stop (by rw [hbd]; simp)
      | false =>
        rw [hbd] at b
        (try simp only [wk, wl, wx, reduceLT, reduceEqDiff, Nat.reduceBEq, reduceIte, t4, t0, i64, decide_eq_true h0, un, fa125_1, Nat.zero_add, b.at ty4 rfl, Bool.not_false])
        (repeat refine WC.seq ?_)
        refine WC.cond (b := true) (by (try simp only [wk, wl, wx, reduceLT, reduceEqDiff, Nat.reduceBEq, reduceIte]); (try simp); (try omega)) (WC.skip ?_)
        (try simp only [wk, wl, wx, reduceLT, reduceEqDiff, Nat.reduceBEq, reduceIte])
        (repeat refine WC.seq ?_)
        refine WC.block ?_
        ((repeat refine WC.seq ?_); refine WC.run ?_)
        (try simp only [wk, wl, wx, reduceLT, reduceEqDiff, Nat.reduceBEq, reduceIte, t1])
        refine (hstep _ _ ii hbd).mono fun v h2 i2 => ?_
        (try simp only [wk, wl, wx, reduceLT, reduceEqDiff, Nat.reduceBEq, reduceIte])
        ((repeat refine WC.seq ?_); refine WC.run ?_)
        (try simp only [wk, wl, wx, reduceLT, reduceEqDiff, Nat.reduceBEq, reduceIte, t4, bin_sub, i64])
        have hmb := hm hbd
        obtain ⟨m, rfl⟩ : ∃ m', m = m' + 1 := ⟨m - 1, by omega⟩
        refine ⟨m, by omega, _, n' - 1, step s', rfl, i2, by omega, fun hb2 => ?_, ?_, ?_⟩
        · rcases hdec _ hbd with q | q
          · rw [q] at hb2; cases hb2
          · omega
        · rw [he, eachR, if_pos ⟨h0, hbd⟩]
        · (try simp only [wk, wl, wx, reduceLT, reduceEqDiff, Nat.reduceBEq, reduceIte, t0, t1])
          refine ⟨trivial, trivial, ?_⟩
          rw [wrap64 (by omega) (by omega)]
    · (try simp only [wk, wl, wx, reduceLT, reduceEqDiff, Nat.reduceBEq, reduceIte, t4, i64, decide_eq_false h0, un])
      (repeat refine WC.seq ?_)
      refine WC.cond (b := false) (by (try simp only [wk, wl, wx, reduceLT, reduceEqDiff, Nat.reduceBEq, reduceIte]); (try simp); (try omega)) (WC.exit ?_)
      (try simp only [wk, wl, wx, reduceLT, reduceEqDiff, Nat.reduceBEq, reduceIte])
      exact stop (by simp; omega)
  all_goals (try simp only [wk, wl, wx, reduceLT, reduceEqDiff, Nat.reduceBEq, reduceIte])
end Go.Proofs.OP
