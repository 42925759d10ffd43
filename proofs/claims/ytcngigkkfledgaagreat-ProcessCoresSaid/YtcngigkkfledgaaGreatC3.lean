/- Walks: Clone, Equal, the reference's put and get, names. -/
import Derived.Test.YtcngigkkfledgaaGreatC2
import Derived.Test.YtcngigkkfledgaaGreatP
set_option linter.unusedVariables false
set_option linter.unusedSimpArgs false
set_option linter.defProp false
set_option linter.unusedSimpArgs false
namespace Go.Proofs.ZP
open Go Go.Ev
open Go.Proofs
variable {g : T (List V)}

def isNils : V → Bool
  | .nils => true
  | _ => false
theorem eq_nils {E : Env} {h h' : H} {c : Bool} {t e sz n : Nat} {s : V} {vs : List V} {i : TI} (a : Sl E h' sz s n vs) (ht : E.tys.get t = some i) (hd : i.desc = .slice e) : binV E h c .eql t s .nils = some (.bool (isNils s)) := by
  have hl := a.len
  unfold lenV at hl
  split at hl
  · simp [binV, eqV, ht, hd, isNils]
  · simp [binV, eqV, ht, hd, isNils]
  · simp [binV, eqV, ht, hd, isNils]
  · exact absurd rfl (a.slice _)
  · cases hl
theorem isNils_empty {E : Env} {h : H} {sz n : Nat} {s : V} {vs : List V} (a : Sl E h sz s n vs) (hn : isNils s = true) : s = .nils ∧ n = 0 ∧ vs = [] := by
  unfold isNils at hn
  split at hn
  · have hl := a.len
    simp only [lenV] at hl; injection hl with hl; subst hl
    have := a.size
    exact ⟨rfl, rfl, by simpa using this⟩
  · cases hn

/-- A copy of bytes: the call's own. -/
abbrev OwnB (g : T (List V)) (h h' : H) (v : V) (xs : List UInt8) : Prop := BufB g h' v xs ∧ In (· < h'.next) v ∧ Kept h h' ∧ In (fun b => h.next ≤ b) v

/-- slices.Clone -/
theorem clone_ok {h : H} {s : V} {xs : List UInt8} (hb : Bs g h s xs) (hs : In (· < h.next) s) (hlen : xs.length ≤ 2 ^ 39) : WF (E g) 31 [s] h fun v h' => OwnB g h h' v xs := by
  refine WF.enter fn31 rfl ?_
  ((repeat refine WC.seq ?_); refine WC.run ?_)
  (try simp only [wk, wl, Then, Blk, pickV, Nat.reduceLT, Nat.reduceEqDiff, Nat.reduceBEq, reduceIte, isConst, nilCheckV, extractV, wantJ, nth])
  ((repeat refine WC.seq ?_); refine WC.run ?_)
  (try simp only [wk, wl, Then, Blk, pickV, Nat.reduceLT, Nat.reduceEqDiff, Nat.reduceBEq, reduceIte, isConst, nilCheckV, extractV, wantJ, nth, eq_nils hb ty26 rfl])
  cases hn : isNils s with
  | true =>
    obtain ⟨rfl, _, h3⟩ := isNils_empty hb hn
    have hx : xs = [] := by simpa using h3
    subst hx
    (repeat refine WC.seq ?_)
    refine WC.cond (b := true) (by (try simp only [wk, wl, Then, Blk, pickV, Nat.reduceLT, Nat.reduceEqDiff, Nat.reduceBEq, reduceIte, isConst, nilCheckV, extractV, wantJ, nth]); (try simp); (try omega)) ?_
    (try simp only [wk, wl, Then, Blk, pickV, Nat.reduceLT, Nat.reduceEqDiff, Nat.reduceBEq, reduceIte, isConst, nilCheckV, extractV, wantJ, nth])
    ((repeat refine WC.seq ?_); refine WC.run ?_)
    (try simp only [wk, wl, Then, Blk, pickV, Nat.reduceLT, Nat.reduceEqDiff, Nat.reduceBEq, reduceIte, isConst, nilCheckV, extractV, wantJ, nth])
    refine WC.ret ?_
    (try simp only [wk, wl, Then, Blk, pickV, Nat.reduceLT, Nat.reduceEqDiff, Nat.reduceBEq, reduceIte, isConst, nilCheckV, extractV, wantJ, nth])
    exact ⟨.nil, In.nils, Fix.refl _ _, In.nils⟩
  | false =>
    (repeat refine WC.seq ?_)
    refine WC.cond (b := false) (by (try simp only [wk, wl, Then, Blk, pickV, Nat.reduceLT, Nat.reduceEqDiff, Nat.reduceBEq, reduceIte, isConst, nilCheckV, extractV, wantJ, nth]); (try simp); (try omega)) (WC.skip ?_)
    (try simp only [wk, wl, Then, Blk, pickV, Nat.reduceLT, Nat.reduceEqDiff, Nat.reduceBEq, reduceIte, isConst, nilCheckV, extractV, wantJ, nth])
    ((repeat refine WC.seq ?_); refine WC.run ?_)
    (try simp only [wk, wl, Then, Blk, pickV, Nat.reduceLT, Nat.reduceEqDiff, Nat.reduceBEq, reduceIte, isConst, nilCheckV, extractV, wantJ, nth])
    refine sat_slice0 ty26 rfl ty5 rfl (by decide) ?_
    intro h1 b1 n1 f1
    (try simp only [wk, wl, Then, Blk, pickV, Nat.reduceLT, Nat.reduceEqDiff, Nat.reduceBEq, reduceIte, isConst, nilCheckV, extractV, wantJ, nth])
    refine app_ok (h0 := h1) (xs := []) (ys := xs) (Grew.refl b1 (fun b o n c e => by injection e with e; omega)) ty26 (.inl ⟨_, rfl⟩) (hb.fix hs f1).len (hb.fix hs f1).cells (by simp; omega) ?_
    intro s' h2 g2 f2
    (try simp only [wk, wl, Then, Blk, pickV, Nat.reduceLT, Nat.reduceEqDiff, Nat.reduceBEq, reduceIte, isConst, nilCheckV, extractV, wantJ, nth])
    refine WC.ret ?_
    (try simp only [wk, wl, Then, Blk, pickV, Nat.reduceLT, Nat.reduceEqDiff, Nat.reduceBEq, reduceIte, isConst, nilCheckV, extractV, wantJ, nth])
    refine ⟨g2.buf, g2.low, ⟨by have := g2.fix.next; omega, fun c hc => ?_⟩, fun b o n c e => ?_⟩
    · rw [g2.fix.same c ⟨by omega, fun o m cc e => by injection e with e; omega⟩, f1.same c hc]
    · rcases g2.own _ _ _ _ e with q | ⟨o, k, c, q⟩
      · omega
      · injection q with q; omega

theorem u8_neq {E : Env} {h : H} {c : Bool} {t : Nat} {a b : UInt8} : binV E h c .neq t (u8 a) (u8 b) = some (.bool (a != b)) := by
  unfold u8
  rw [bin_neq]
  congr 2
  by_cases e : a = b
  · subst e; simp
  · have : (a.toNat : Int) ≠ (b.toNat : Int) := fun q => e (by
      have := Int.ofNat.inj q
      exact UInt8.toNat_inj.1 this)
    have e1 : ((a.toNat : Int) == (b.toNat : Int)) = false := by simpa using this
    have e2 : (a == b) = false := by simpa using e
    simp only [bne, e1, e2]

/-- slices.Equal -/
theorem equal_ok {h : H} {s t : V} {xs ys : List UInt8} (hb : Bs g h s xs) (hc : Bs g h t ys) (hlen : xs.length ≤ 2 ^ 39) (hlen2 : ys.length ≤ 2 ^ 39) : WF (E g) 32 [s, t] h fun v h' => v = .bool (decide (xs = ys)) ∧ h' = h := by
  refine WF.enter fn32 rfl ?_
  ((repeat refine WC.seq ?_); refine WC.run ?_)
  (try simp only [wk, wl, Then, Blk, pickV, Nat.reduceLT, Nat.reduceEqDiff, Nat.reduceBEq, reduceIte, isConst, nilCheckV, extractV, wantJ, nth])
  ((repeat refine WC.seq ?_); refine WC.run ?_)
  (try simp only [wk, wl, Then, Blk, pickV, Nat.reduceLT, Nat.reduceEqDiff, Nat.reduceBEq, reduceIte, isConst, nilCheckV, extractV, wantJ, nth, hb.len, hc.len])
  (repeat refine WC.seq ?_)
  by_cases hl : xs.length = ys.length
  · refine WC.cond (b := false) (by (try simp only [wk, wl, Then, Blk, pickV, Nat.reduceLT, Nat.reduceEqDiff, Nat.reduceBEq, reduceIte, isConst, nilCheckV, extractV, wantJ, nth]); (try simp); (try omega)) (WC.skip ?_)
    (try simp only [wk, wl, Then, Blk, pickV, Nat.reduceLT, Nat.reduceEqDiff, Nat.reduceBEq, reduceIte, isConst, nilCheckV, extractV, wantJ, nth])
    ((repeat refine WC.seq ?_); refine WC.run ?_)
    (try simp only [wk, wl, Then, Blk, pickV, Nat.reduceLT, Nat.reduceEqDiff, Nat.reduceBEq, reduceIte, isConst, nilCheckV, extractV, wantJ, nth, hb.len])
    (repeat refine WC.seq ?_)
    refine WC.block ?_
    refine WC.while (fun m fr hh => ∃ ts i, fr = ⟨ts, 26, [], 32, none⟩ ∧ hh = h ∧ m = xs.length - i ∧ i ≤ xs.length ∧ ts.get 0 = some s ∧ ts.get 1 = some t ∧ ts.get 12 = some (.int .i64 xs.length) ∧ ts.get 13 = some (.int .i64 i) ∧ xs.take i = ys.take i) ?_ ⟨_, 0, rfl, rfl, rfl, by omega, ?_, ?_, ?_, ?_, ?_⟩
    · rintro m fr hh ⟨ts, i, rfl, rfl, rfl, hi, h0, h1, h12, h13, heq⟩
      ((repeat refine WC.seq ?_); refine WC.run ?_)
      (try simp only [wk, wl, Then, Blk, pickV, Nat.reduceLT, Nat.reduceEqDiff, Nat.reduceBEq, reduceIte, isConst, nilCheckV, extractV, wantJ, nth, h12, h13])
      (repeat refine WC.seq ?_)
      by_cases hlt : i < xs.length
      · refine WC.cond (b := true) (by (try simp only [wk, wl, Then, Blk, pickV, Nat.reduceLT, Nat.reduceEqDiff, Nat.reduceBEq, reduceIte, isConst, nilCheckV, extractV, wantJ, nth]); (try simp); (try omega)) (WC.skip ?_)
        (try simp only [wk, wl, Then, Blk, pickV, Nat.reduceLT, Nat.reduceEqDiff, Nat.reduceBEq, reduceIte, isConst, nilCheckV, extractV, wantJ, nth])
        obtain ⟨p, p1, p2⟩ := hb.at hlt
        obtain ⟨q, q1, q2⟩ := hc.at (show i < ys.length by omega)
        (repeat refine WC.seq ?_)
        refine WC.block ?_
        ((repeat refine WC.seq ?_); refine WC.run ?_)
        (try simp only [wk, wl, Then, Blk, pickV, Nat.reduceLT, Nat.reduceEqDiff, Nat.reduceBEq, reduceIte, isConst, nilCheckV, extractV, wantJ, nth, h13])
        ((repeat refine WC.seq ?_); refine WC.draw (plans := pl32_6) (by kernel_rfl) ?_; simp only [pl32_6, List.mem_cons, List.not_mem_nil, or_false, forall_eq_or_imp, forall_eq])
        (try simp only [wk, wl, Then, Blk, pickV, Nat.reduceLT, Nat.reduceEqDiff, Nat.reduceBEq, reduceIte, isConst, nilCheckV, extractV, wantJ, nth, wd, Chk, and_true, true_and, h0, h1, p1, p2, q1, q2, u8_neq])
        (repeat refine WC.seq ?_)
        by_cases hx : xs[i] = ys[i]
        · refine WC.cond (b := false) (by (try simp only [wk, wl, Then, Blk, pickV, Nat.reduceLT, Nat.reduceEqDiff, Nat.reduceBEq, reduceIte, isConst, nilCheckV, extractV, wantJ, nth]); (try simp); (try omega)) (WC.skip ?_)
          (try simp only [wk, wl, Then, Blk, pickV, Nat.reduceLT, Nat.reduceEqDiff, Nat.reduceBEq, reduceIte, isConst, nilCheckV, extractV, wantJ, nth])
          ((repeat refine WC.seq ?_); refine WC.run ?_)
          (try simp only [wk, wl, Then, Blk, pickV, Nat.reduceLT, Nat.reduceEqDiff, Nat.reduceBEq, reduceIte, isConst, nilCheckV, extractV, wantJ, nth, h13, bin_add])
          refine ⟨_, ?_, _, i + 1, rfl, trivial, rfl, by omega, ?_⟩
          · omega
          (try simp only [wk, wl, Then, Blk, pickV, Nat.reduceLT, Nat.reduceEqDiff, Nat.reduceBEq, reduceIte, isConst, nilCheckV, extractV, wantJ, nth, h0, h1, h12])
          refine ⟨trivial, trivial, trivial, ?_, ?_⟩
          · rw [wrap64 (by omega) (by omega)]; rfl
          · rw [List.take_succ_eq_append_getElem hlt, List.take_succ_eq_append_getElem (show i < ys.length by omega), heq, hx]
        · refine WC.cond (b := true) (by (try simp only [wk, wl, Then, Blk, pickV, Nat.reduceLT, Nat.reduceEqDiff, Nat.reduceBEq, reduceIte, isConst, nilCheckV, extractV, wantJ, nth]); (try simp); (try omega)) ?_
          ((repeat refine WC.seq ?_); refine WC.run ?_)
          (try simp only [wk, wl, Then, Blk, pickV, Nat.reduceLT, Nat.reduceEqDiff, Nat.reduceBEq, reduceIte, isConst, nilCheckV, extractV, wantJ, nth])
          refine WC.ret ?_
          (try simp only [wk, wl, Then, Blk, pickV, Nat.reduceLT, Nat.reduceEqDiff, Nat.reduceBEq, reduceIte, isConst, nilCheckV, extractV, wantJ, nth])
          have : xs ≠ ys := fun e => hx (by subst e; rfl)
          simp [this]
      · refine WC.cond (b := false) (by (try simp only [wk, wl, Then, Blk, pickV, Nat.reduceLT, Nat.reduceEqDiff, Nat.reduceBEq, reduceIte, isConst, nilCheckV, extractV, wantJ, nth]); (try simp); (try omega)) (WC.exit ?_)
        have : i = xs.length := by omega
        subst this
        (try simp only [wk, wl, Then, Blk, pickV, Nat.reduceLT, Nat.reduceEqDiff, Nat.reduceBEq, reduceIte, isConst, nilCheckV, extractV, wantJ, nth])
        ((repeat refine WC.seq ?_); refine WC.run ?_)
        (try simp only [wk, wl, Then, Blk, pickV, Nat.reduceLT, Nat.reduceEqDiff, Nat.reduceBEq, reduceIte, isConst, nilCheckV, extractV, wantJ, nth])
        refine WC.ret ?_
        (try simp only [wk, wl, Then, Blk, pickV, Nat.reduceLT, Nat.reduceEqDiff, Nat.reduceBEq, reduceIte, isConst, nilCheckV, extractV, wantJ, nth])
        have : xs = ys := by
          rw [List.take_length] at heq
          rw [heq, List.take_of_length_le (by omega)]
        subst this
        simp
    all_goals (try simp only [wk, wl, Then, Blk, pickV, Nat.reduceLT, Nat.reduceEqDiff, Nat.reduceBEq, reduceIte, isConst, nilCheckV, extractV, wantJ, nth])
    all_goals simp
  · refine WC.cond (b := true) (by (try simp only [wk, wl, Then, Blk, pickV, Nat.reduceLT, Nat.reduceEqDiff, Nat.reduceBEq, reduceIte, isConst, nilCheckV, extractV, wantJ, nth]); (try simp); (try omega)) ?_
    ((repeat refine WC.seq ?_); refine WC.run ?_)
    (try simp only [wk, wl, Then, Blk, pickV, Nat.reduceLT, Nat.reduceEqDiff, Nat.reduceBEq, reduceIte, isConst, nilCheckV, extractV, wantJ, nth])
    refine WC.ret ?_
    (try simp only [wk, wl, Then, Blk, pickV, Nat.reduceLT, Nat.reduceEqDiff, Nat.reduceBEq, reduceIte, isConst, nilCheckV, extractV, wantJ, nth])
    have : xs ≠ ys := fun e => hl (by rw [e])
    simp [this]
end Go.Proofs.ZP
