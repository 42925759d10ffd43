/- Walks: reloc. -/
import Derived.Test.YtloblhhnlaaajaaDoorC7
set_option linter.unusedVariables false
set_option linter.unusedSimpArgs false
set_option linter.defProp false
set_option linter.unusedSimpArgs false
namespace Go.Proofs.OP
open Go Go.Ev
open Go.Proofs
variable {g : T (List V)}

theorem flat_take {α : Type} {f : α → List V} {sz : Nat} (hf : ∀ x, (f x).length = sz) : ∀ (L : List α) (i : Nat), (L.flatMap f).take (i * sz) = (L.take i).flatMap f
  | [], i => by simp
  | x :: r, 0 => by simp
  | x :: r, i + 1 => by
    rw [List.flatMap_cons, List.take_succ_cons, List.flatMap_cons, ← flat_take hf r i, List.take_append, hf, List.take_of_length_le (by rw [hf, Nat.succ_mul]; omega)]
    congr 2
    rw [Nat.succ_mul]; omega
/-- The first of the records. -/
theorem Rcs.upto {α : Type} {h : H} {sz : Nat} {f : α → List V} {s : V} {L : List α} (a : Rcs (E g) h sz f s L) (hf : ∀ x, (f x).length = sz) {t e : Nat} {i ei : TI} (ht : (E g).tys.get t = some i) (hd : i.desc = .slice e) (he : (E g).tys.get e = some ei) (hs : ei.size = sz) {n : Nat} (hn : n ≤ L.length) :
    ∃ s', sliceV (E g) t s none (some (.int .i64 n)) none = some s' ∧ Rcs (E g) h sz f s' (L.take n) ∧ (∀ K, In K s → In K s') := by
  obtain ⟨s', h1, h2, h3, _⟩ := Sl.sub a ht hd (by rw [sizeOf_of he, hs]) (lo := none) (hi := some n) (l := 0) (r := n) rfl rfl (Nat.zero_le _) hn
  refine ⟨s', h1, ?_, h3⟩
  have e : (L.take n).length = n := by simp; omega
  unfold Rcs
  rw [e, ← flat_take hf]
  simpa using h2

/-- Do two places overlap? -/
def clash (r x : RelD) : Bool := decide (x.sec = r.sec) && (decide (x.off < IntKind.i64.wrap (r.off + 4)) && decide (r.off < IntKind.i64.wrap (x.off + 4)))
theorem dec_beq (a b : Int) : (a == b) = decide (a = b) := by by_cases h : a = b <;> simp [h]
/-- (*object.Object).reloc$1 -/
theorem clash_ok {h : H} {r x : RelD} {rb : Nat} (b : Has h rb (relV r)) (hrb : rb < h.next) : WF (E g) 110 [.agg (relV x), .ptr rb 0] h fun v h' => v = .bool (clash r x) ∧ Kept h h' := by
  refine WF.enter fn110 rfl ?_
  ((repeat refine WC.seq ?_); refine WC.run ?_)
  (try simp only [wk, wl, Then, Blk, pickV, Nat.reduceLT, Nat.reduceEqDiff, Nat.reduceBEq, reduceIte, isConst, nilCheckV, extractV, wantJ, nth])
  refine wop_box (v := .agg (relV x)) (by (try simp only [wk, wl, Then, Blk, pickV, Nat.reduceLT, Nat.reduceEqDiff, Nat.reduceBEq, reduceIte, isConst, nilCheckV, extractV, wantJ, nth])) ?_
  intro h1 b1 n1 f1
  (try simp only [wk, wl, Then, Blk, pickV, Nat.reduceLT, Nat.reduceEqDiff, Nat.reduceBEq, reduceIte, isConst, nilCheckV, extractV, wantJ, nth])
  have c := b.fix f1 hrb
  have c0 : loadP (E g) h1 3 (.ptr rb 0) = some (.int .i64 r.sec) := c.at ty3 rfl 0
  have c1 : loadP (E g) h1 2 (.ptr rb 1) = some (.int .i64 r.off) := c.at ty2 rfl 1
  have d0 : loadP (E g) h1 3 (.ptr h.next 0) = some (.int .i64 x.sec) := b1.at ty3 rfl 0
  have d1 : loadP (E g) h1 2 (.ptr h.next 1) = some (.int .i64 x.off) := b1.at ty2 rfl 1
  rcases (Decidable.em (x.sec = r.sec)).symm with q1 | q1
  · ((repeat refine WC.seq ?_); refine WC.run ?_)
    (try simp only [wk, wl, Then, Blk, pickV, Nat.reduceLT, Nat.reduceEqDiff, Nat.reduceBEq, reduceIte, isConst, nilCheckV, extractV, wantJ, nth, fa97_0, fa97_1, Nat.zero_add, c0, c1, d0, d1, bin_add, dec_beq, decide_eq_false q1])
    (repeat refine WC.seq ?_)
    refine WC.ret ?_
    (try simp only [wk, wl, Then, Blk, pickV, Nat.reduceLT, Nat.reduceEqDiff, Nat.reduceBEq, reduceIte, isConst, nilCheckV, extractV, wantJ, nth])
    refine ⟨?_, f1⟩
    simp [clash, q1]
  rcases (Decidable.em (x.off < IntKind.i64.wrap (r.off + 4))).symm with q2 | q2
  · ((repeat refine WC.seq ?_); refine WC.run ?_)
    (try simp only [wk, wl, Then, Blk, pickV, Nat.reduceLT, Nat.reduceEqDiff, Nat.reduceBEq, reduceIte, isConst, nilCheckV, extractV, wantJ, nth, fa97_0, fa97_1, Nat.zero_add, c0, c1, d0, d1, bin_add, dec_beq, decide_eq_true q1, decide_eq_false q2])
    (repeat refine WC.seq ?_)
    refine WC.ret ?_
    (try simp only [wk, wl, Then, Blk, pickV, Nat.reduceLT, Nat.reduceEqDiff, Nat.reduceBEq, reduceIte, isConst, nilCheckV, extractV, wantJ, nth])
    refine ⟨?_, f1⟩
    simp [clash, q1, q2]
  ((repeat refine WC.seq ?_); refine WC.run ?_)
  (try simp only [wk, wl, Then, Blk, pickV, Nat.reduceLT, Nat.reduceEqDiff, Nat.reduceBEq, reduceIte, isConst, nilCheckV, extractV, wantJ, nth, fa97_0, fa97_1, Nat.zero_add, c0, c1, d0, d1, bin_add, dec_beq, decide_eq_true q1, decide_eq_true q2])
  (repeat refine WC.seq ?_)
  refine WC.ret ?_
  (try simp only [wk, wl, Then, Blk, pickV, Nat.reduceLT, Nat.reduceEqDiff, Nat.reduceBEq, reduceIte, isConst, nilCheckV, extractV, wantJ, nth])
  refine ⟨?_, f1⟩
  simp [clash, q1, q2]

/-- slices.IndexFunc over reloc$1 -/
theorem index_ok {h : H} {s : V} {L : List RelD} {r : RelD} {rb : Nat} (a : Re g h s L) (hs : In (· < h.next) s) (b : Has h rb (relV r)) (hrb : rb < h.next) (hM : L.length < 2 ^ 62) :
    WF (E g) 125 [s, .func 110 [] [.ptr rb 0]] h fun v h' => (∃ k : Int, v = .int .i64 k ∧ (decide (0 ≤ k)) = L.any (clash r)) ∧ Kept h h' := by
  refine WF.enter fn125 rfl ?_
  ((repeat refine WC.seq ?_); refine WC.run ?_)
  (try simp only [wk, wl, Then, Blk, pickV, Nat.reduceLT, Nat.reduceEqDiff, Nat.reduceBEq, reduceIte, isConst, nilCheckV, extractV, wantJ, nth])
  ((repeat refine WC.seq ?_); refine WC.run ?_)
  (try simp only [wk, wl, Then, Blk, pickV, Nat.reduceLT, Nat.reduceEqDiff, Nat.reduceBEq, reduceIte, isConst, nilCheckV, extractV, wantJ, nth, Sl.lenB a ty75 rfl])
  (repeat refine WC.seq ?_)
  refine WC.block ?_
  refine WC.while (fun m fr hh => ∃ ts i, fr = ⟨ts, 19, [], 125, none⟩ ∧ Kept h hh ∧ m = L.length - i ∧ i ≤ L.length ∧ ts.get 0 = some s ∧ ts.get 1 = some (.func 110 [] [.ptr rb 0]) ∧ ts.get 7 = some (.int .i64 L.length) ∧ ts.get 8 = some (.int .i64 i) ∧ (L.take i).any (clash r) = false) ?_ ⟨_, 0, rfl, Fix.refl _ _, rfl, by omega, ?_, ?_, ?_, ?_, ?_⟩
  · rintro m fr hh ⟨ts, i, rfl, ff, rfl, hi, t0, t1, t7, t8, hno⟩
    ((repeat refine WC.seq ?_); refine WC.run ?_)
    (try simp only [wk, wl, Then, Blk, pickV, Nat.reduceLT, Nat.reduceEqDiff, Nat.reduceBEq, reduceIte, isConst, nilCheckV, extractV, wantJ, nth, t7, t8])
    (repeat refine WC.seq ?_)
    by_cases hlt : i < L.length
    · refine WC.cond (b := true) (by (try simp only [wk, wl, Then, Blk, pickV, Nat.reduceLT, Nat.reduceEqDiff, Nat.reduceBEq, reduceIte, isConst, nilCheckV, extractV, wantJ, nth]); (try simp); (try omega)) (WC.skip ?_)
      (try simp only [wk, wl, Then, Blk, pickV, Nat.reduceLT, Nat.reduceEqDiff, Nat.reduceBEq, reduceIte, isConst, nilCheckV, extractV, wantJ, nth])
      obtain ⟨p, p1, p2⟩ := a.at (fun _ => rfl) ty75 rfl ty97 rfl (by decide) rfl hlt
      have p2 := p2 hh fun b o m c e => ff.same b (hs _ _ _ _ e)
      have hmem := List.getElem_mem hlt
      (repeat refine WC.seq ?_)
      refine WC.block ?_
      ((repeat refine WC.seq ?_); refine WC.run ?_)
      (try simp only [wk, wl, Then, Blk, pickV, Nat.reduceLT, Nat.reduceEqDiff, Nat.reduceBEq, reduceIte, isConst, nilCheckV, extractV, wantJ, nth, t8])
      ((repeat refine WC.seq ?_); refine WC.run ?_)
      (try simp only [wk, wl, Then, Blk, pickV, Nat.reduceLT, Nat.reduceEqDiff, Nat.reduceBEq, reduceIte, isConst, nilCheckV, extractV, wantJ, nth, t0, t1, p1, p2])
      refine (clash_ok (b.fix ff hrb) (Nat.lt_of_lt_of_le hrb ff.next)).mono fun v h2 ⟨e2, f2⟩ => ?_
      subst e2
      (try simp only [wk, wl, Then, Blk, pickV, Nat.reduceLT, Nat.reduceEqDiff, Nat.reduceBEq, reduceIte, isConst, nilCheckV, extractV, wantJ, nth])
      (repeat refine WC.seq ?_)
      cases hb : clash r L[i] with
      | true =>
        refine WC.cond (b := true) (by (try simp only [wk, wl, Then, Blk, pickV, Nat.reduceLT, Nat.reduceEqDiff, Nat.reduceBEq, reduceIte, isConst, nilCheckV, extractV, wantJ, nth, hb]); (try simp); (try omega)) ?_
        ((repeat refine WC.seq ?_); refine WC.run ?_)
        (try simp only [wk, wl, Then, Blk, pickV, Nat.reduceLT, Nat.reduceEqDiff, Nat.reduceBEq, reduceIte, isConst, nilCheckV, extractV, wantJ, nth])
        refine WC.ret ?_
        (try simp only [wk, wl, Then, Blk, pickV, Nat.reduceLT, Nat.reduceEqDiff, Nat.reduceBEq, reduceIte, isConst, nilCheckV, extractV, wantJ, nth])
        refine ⟨⟨_, rfl, ?_⟩, ff.trans (f2.sub fun x hx => Nat.lt_of_lt_of_le hx ff.next)⟩
        have : L.any (clash r) = true := by
          rw [List.any_eq_true]
          exact ⟨_, hmem, hb⟩
        rw [this]; simp
      | false =>
        refine WC.cond (b := false) (by (try simp only [wk, wl, Then, Blk, pickV, Nat.reduceLT, Nat.reduceEqDiff, Nat.reduceBEq, reduceIte, isConst, nilCheckV, extractV, wantJ, nth, hb]); (try simp); (try omega)) (WC.skip ?_)
        (try simp only [wk, wl, Then, Blk, pickV, Nat.reduceLT, Nat.reduceEqDiff, Nat.reduceBEq, reduceIte, isConst, nilCheckV, extractV, wantJ, nth])
        ((repeat refine WC.seq ?_); refine WC.run ?_)
        (try simp only [wk, wl, Then, Blk, pickV, Nat.reduceLT, Nat.reduceEqDiff, Nat.reduceBEq, reduceIte, isConst, nilCheckV, extractV, wantJ, nth, t8, bin_add])
        refine ⟨_, ?_, _, i + 1, rfl, ff.trans (f2.sub fun x hx => Nat.lt_of_lt_of_le hx ff.next), rfl, by omega, ?_⟩
        · omega
        (try simp only [wk, wl, Then, Blk, pickV, Nat.reduceLT, Nat.reduceEqDiff, Nat.reduceBEq, reduceIte, isConst, nilCheckV, extractV, wantJ, nth, t0, t1, t7])
        refine ⟨trivial, trivial, trivial, ?_, ?_⟩
        · rw [wrap64 (by omega) (by omega)]; rfl
        · rw [List.take_succ_eq_append_getElem hlt, List.any_append, hno]
          simp only [List.any_cons, List.any_nil, Bool.or_false, Bool.false_or, hb]
    · refine WC.cond (b := false) (by (try simp only [wk, wl, Then, Blk, pickV, Nat.reduceLT, Nat.reduceEqDiff, Nat.reduceBEq, reduceIte, isConst, nilCheckV, extractV, wantJ, nth]); (try simp); (try omega)) (WC.exit ?_)
      have : i = L.length := by omega
      subst this
      (try simp only [wk, wl, Then, Blk, pickV, Nat.reduceLT, Nat.reduceEqDiff, Nat.reduceBEq, reduceIte, isConst, nilCheckV, extractV, wantJ, nth])
      ((repeat refine WC.seq ?_); refine WC.run ?_)
      (try simp only [wk, wl, Then, Blk, pickV, Nat.reduceLT, Nat.reduceEqDiff, Nat.reduceBEq, reduceIte, isConst, nilCheckV, extractV, wantJ, nth])
      rw [List.take_length] at hno
      refine WC.ret ?_
      (try simp only [wk, wl, Then, Blk, pickV, Nat.reduceLT, Nat.reduceEqDiff, Nat.reduceBEq, reduceIte, isConst, nilCheckV, extractV, wantJ, nth])
      exact ⟨⟨_, rfl, by rw [hno]; rfl⟩, ff⟩
  all_goals (try simp only [wk, wl, Then, Blk, pickV, Nat.reduceLT, Nat.reduceEqDiff, Nat.reduceBEq, reduceIte, isConst, nilCheckV, extractV, wantJ, nth])
  all_goals simp
/-- slices.ContainsFunc over reloc$1 -/
theorem contains_ok {h : H} {s : V} {L : List RelD} {r : RelD} {rb : Nat} (a : Re g h s L) (hs : In (· < h.next) s) (b : Has h rb (relV r)) (hrb : rb < h.next) (hM : L.length < 2 ^ 62) :
    WF (E g) 109 [s, .func 110 [] [.ptr rb 0]] h fun v h' => v = .bool (L.any (clash r)) ∧ Kept h h' := by
  refine WF.enter fn109 rfl ?_
  ((repeat refine WC.seq ?_); refine WC.run ?_)
  (try simp only [wk, wl, Then, Blk, pickV, Nat.reduceLT, Nat.reduceEqDiff, Nat.reduceBEq, reduceIte, isConst, nilCheckV, extractV, wantJ, nth])
  ((repeat refine WC.seq ?_); refine WC.run ?_)
  (try simp only [wk, wl, Then, Blk, pickV, Nat.reduceLT, Nat.reduceEqDiff, Nat.reduceBEq, reduceIte, isConst, nilCheckV, extractV, wantJ, nth])
  refine (index_ok a hs b hrb hM).mono fun v h1 ⟨⟨k, e, hk⟩, f1⟩ => ?_
  subst e
  (try simp only [wk, wl, Then, Blk, pickV, Nat.reduceLT, Nat.reduceEqDiff, Nat.reduceBEq, reduceIte, isConst, nilCheckV, extractV, wantJ, nth])
  (repeat refine WC.seq ?_)
  refine WC.ret ?_
  (try simp only [wk, wl, Then, Blk, pickV, Nat.reduceLT, Nat.reduceEqDiff, Nat.reduceBEq, reduceIte, isConst, nilCheckV, extractV, wantJ, nth])
  exact ⟨by rw [hk], f1⟩
end Go.Proofs.OP
