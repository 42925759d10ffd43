/- Walks: the reference's Check. -/
import Derived.Test.YtloblhhnlaaajaaGreatDoorB13
import Derived.Test.YtloblhhnlaaajaaGreatDoorC10
set_option linter.unusedVariables false
set_option linter.unusedSimpArgs false
set_option linter.defProp false
set_option linter.unusedSimpArgs false
namespace Go.Proofs.OP
open Go Go.Ev
open Go.Proofs
open Nat (reduceLT reduceEqDiff)
variable {g : T (List V)}

theorem WPlan_cut {E : Env} {ops : List Oper} {pl : List Stp} {rd : List (Nat × V)} {nt fn : Nat} {mks : List D} {rnd : Option Nat} {h : H} {Q : Fr → H → Prop} {ts : T V} (L : List (Nat × V)) (hL : ∀ p ∈ L, ts.get p.1 = some p.2)
    (k : ∀ ts2 : T V, (∀ p ∈ L, ts2.get p.1 = some p.2) → WPlan E ops pl rd ⟨ts2, nt, mks, fn, rnd⟩ h Q) : WPlan E ops pl rd ⟨ts, nt, mks, fn, rnd⟩ h Q := k ts hL
theorem hasN_snoc {k : List UInt8} {x : SymD} {A : List SymD} (h : hasN k A = false) : hasN k (A ++ [x]) = (x.name == k) := by
  have h : fnd k A = none := by
    cases hq : fnd k A with
    | none => rfl
    | some j => rw [hasN, hq] at h; cases h
  rw [hasN, fnd_snoc h]
  by_cases hx : x.name = k
  · rw [if_pos hx]; simp [hx]
  · rw [if_neg hx]; simp [hx]
theorem hasN_true {k : List UInt8} {L : List SymD} {i : Nat} (hi : i < L.length) (hx : L[i].name = k) : hasN k L = true := by
  cases hq : hasN k L with
  | true => rfl
  | false =>
    exfalso
    have h : fnd k L = none := by
      cases hp : fnd k L with
      | none => rfl
      | some j => rw [hasN, hp] at hq; cases hq
    clear hq
    induction L generalizing i with
    | nil => exact absurd hi (Nat.not_lt_zero _)
    | cons a r ih =>
      simp only [fnd] at h
      split at h
      · cases h
      · rename_i ha
        have h := Option.map_eq_none_iff.1 h
        cases i with
        | zero => exact ha hx
        | succ i => exact ih (i := i) (by simpa using hi) hx h
theorem limE_eq (o : ObjD) : limE o = if (16384 : Int) < o.code.length ∨ (16384 : Int) < o.data.length ∨ (500 : Int) < o.syms.length ∨ (1000 : Int) < o.rels.length ∨ (20 : Int) < o.needs.length then 18 else 0 := by
  unfold limE lims
  by_cases h : (16384 : Int) < o.code.length ∨ (16384 : Int) < o.data.length ∨ (500 : Int) < o.syms.length ∨ (1000 : Int) < o.rels.length ∨ (20 : Int) < o.needs.length
  · rw [if_pos h, if_pos]
    simpa only [List.any_cons, List.any_nil, Bool.or_false, Bool.or_eq_true, decide_eq_true_eq] using h
  · rw [if_neg h, if_neg]
    simpa only [List.any_cons, List.any_nil, Bool.or_false, Bool.or_eq_true, decide_eq_true_eq] using h
theorem namesT_two (a b : List UInt8) : namesT [a, b] = if (64 : Int) < a.length ∨ (64 : Int) < b.length then 21 else 0 := by
  have e : namesT [a, b] = orE (nameT a) (orE (nameT b) 0) := rfl
  rw [e]
  by_cases h1 : 64 < a.length
  · have q : nameT a = 21 := by rw [nameT, if_pos h1]
    rw [orE_nz (by rw [q]; decide), q, if_pos (.inl (by omega))]
  · have q : nameT a = 0 := by rw [nameT, if_neg h1]
    rw [orE_z q]
    by_cases h2 : 64 < b.length
    · have q : nameT b = 21 := by rw [nameT, if_pos h2]
      rw [orE_nz (by rw [q]; decide), q, if_pos (.inr (by omega))]
    · have q : nameT b = 0 := by rw [nameT, if_neg h2]
      rw [orE_z q, if_neg (by omega)]
theorem getS_some {k : List UInt8} {L : List SymD} {j : Nat} (h : fnd k L = some j) (hj : j < L.length) : getS k L = L[j] := by
  simp only [getS, h, List.getElem?_eq_getElem hj]
theorem entE_ref (o : ObjD) : entE o = if o.entry ≠ [] ∧ (hasN o.entry o.syms = false ∨ (getS o.entry o.syms).sec = 0 ∨ (getS o.entry o.syms).glob = false) then 22 else 0 := by
  unfold entE
  cases hf : fnd o.entry o.syms with
  | none =>
    simp only [hasN, hf, Option.isSome_none, true_or, and_true]
    by_cases he : o.entry = [] <;> simp [he]
  | some j =>
    obtain ⟨hj, _⟩ := fnd_some hf
    simp only [hasN, hf, Option.isSome_some, Bool.true_eq_false, false_or, List.getElem?_eq_getElem hj, getS_some hf hj]
    by_cases he : o.entry = [] <;> simp [he]

set_option maxRecDepth 100000 in
set_option maxHeartbeats 16000000 in
theorem rcheck_ok {h : H} {c : Oc} {o : ObjD} (ob : Ob g h (· < h.next) c o) (fit : Fits o) : WF (E g) 10 [.agg (c.cells o)] h fun v h' => v = i64 (checkE o) ∧ Kept h h' := by
  have fs := fit.syms
  have fr := fit.rels
  have fn := fit.needs
  have fcode := fit.code
  have fdata := fit.data
  have hz : ∀ n : Int, (V.bool (n == 0)) = .bool (decide (n = 0)) := fun n => by congr 1
  have hnz : ∀ n : Int, (V.bool (n != 0)) = .bool (!decide (n = 0)) := fun n => by congr 1
  refine WF.enter fn10 rfl ?_
  ((repeat refine WC.seq ?_); refine WC.run ?_)
  (try simp only [wk, wl, wx, reduceLT, reduceEqDiff, Nat.reduceBEq, reduceIte])
  refine wop_box (v := .agg (c.cells o)) (by (try simp only [wk, wl, wx, reduceLT, reduceEqDiff, Nat.reduceBEq, reduceIte])) ?_
  intro h1 b1 n1 f1
  (try simp only [wk, wl, wx, reduceLT, reduceEqDiff, Nat.reduceBEq, reduceIte])
  have b1 : Has h1 h.next [.str o.name, c.code, c.data, c.syms, c.rels, c.needs, .str o.entry] := b1
  have ob1 := (ob.fix f1 (fun _ h => h)).up (K' := (· < h1.next)) (fun _ h => by omega)
  rcases Decidable.em ((16384 : Int) < o.code.length) with c1 | c1
  · ((repeat refine WC.seq ?_); refine WC.run ?_)
    (try simp only [wk, wl, wx, reduceLT, reduceEqDiff, Nat.reduceBEq, reduceIte, fa27_1, fa27_2, fa27_3, fa27_4, fa27_5, Nat.zero_add, b1.at ty22 rfl, b1.at ty23 rfl, b1.at ty24 rfl, b1.at ty25 rfl, ob1.code.len, ob1.data.len, Sl.lenB ob1.syms ty23 rfl, Sl.lenB ob1.rels ty24 rfl, Sl.lenB ob1.needs ty25 rfl, decide_eq_true c1])
    (repeat refine WC.seq ?_)
    refine WC.cond (b := true) (by (try simp only [wk, wl, wx, reduceLT, reduceEqDiff, Nat.reduceBEq, reduceIte]); (try simp); (try omega)) ?_
    ((repeat refine WC.seq ?_); refine WC.run ?_)
    (try simp only [wk, wl, wx, reduceLT, reduceEqDiff, Nat.reduceBEq, reduceIte])
    refine WC.ret ?_
    (try simp only [wk, wl, wx, reduceLT, reduceEqDiff, Nat.reduceBEq, reduceIte])
    refine ⟨?_, f1⟩
    have hl : limE o = 18 := by rw [limE_eq, if_pos (by simp [c1])]
    rw [checkE, orE_nz (by rw [hl]; decide), hl]; rfl
  rcases Decidable.em ((16384 : Int) < o.data.length) with c2 | c2
  · ((repeat refine WC.seq ?_); refine WC.run ?_)
    (try simp only [wk, wl, wx, reduceLT, reduceEqDiff, Nat.reduceBEq, reduceIte, fa27_1, fa27_2, fa27_3, fa27_4, fa27_5, Nat.zero_add, b1.at ty22 rfl, b1.at ty23 rfl, b1.at ty24 rfl, b1.at ty25 rfl, ob1.code.len, ob1.data.len, Sl.lenB ob1.syms ty23 rfl, Sl.lenB ob1.rels ty24 rfl, Sl.lenB ob1.needs ty25 rfl, decide_eq_false c1, decide_eq_true c2])
    (repeat refine WC.seq ?_)
    refine WC.cond (b := true) (by (try simp only [wk, wl, wx, reduceLT, reduceEqDiff, Nat.reduceBEq, reduceIte]); (try simp); (try omega)) ?_
    ((repeat refine WC.seq ?_); refine WC.run ?_)
    (try simp only [wk, wl, wx, reduceLT, reduceEqDiff, Nat.reduceBEq, reduceIte])
    refine WC.ret ?_
    (try simp only [wk, wl, wx, reduceLT, reduceEqDiff, Nat.reduceBEq, reduceIte])
    refine ⟨?_, f1⟩
    have hl : limE o = 18 := by rw [limE_eq, if_pos (by simp [c1, c2])]
    rw [checkE, orE_nz (by rw [hl]; decide), hl]; rfl
  rcases Decidable.em ((500 : Int) < o.syms.length) with c3 | c3
  · ((repeat refine WC.seq ?_); refine WC.run ?_)
    (try simp only [wk, wl, wx, reduceLT, reduceEqDiff, Nat.reduceBEq, reduceIte, fa27_1, fa27_2, fa27_3, fa27_4, fa27_5, Nat.zero_add, b1.at ty22 rfl, b1.at ty23 rfl, b1.at ty24 rfl, b1.at ty25 rfl, ob1.code.len, ob1.data.len, Sl.lenB ob1.syms ty23 rfl, Sl.lenB ob1.rels ty24 rfl, Sl.lenB ob1.needs ty25 rfl, decide_eq_false c1, decide_eq_false c2, decide_eq_true c3])
    (repeat refine WC.seq ?_)
    refine WC.cond (b := true) (by (try simp only [wk, wl, wx, reduceLT, reduceEqDiff, Nat.reduceBEq, reduceIte]); (try simp); (try omega)) ?_
    ((repeat refine WC.seq ?_); refine WC.run ?_)
    (try simp only [wk, wl, wx, reduceLT, reduceEqDiff, Nat.reduceBEq, reduceIte])
    refine WC.ret ?_
    (try simp only [wk, wl, wx, reduceLT, reduceEqDiff, Nat.reduceBEq, reduceIte])
    refine ⟨?_, f1⟩
    have hl : limE o = 18 := by rw [limE_eq, if_pos (by simp [c1, c2, c3])]
    rw [checkE, orE_nz (by rw [hl]; decide), hl]; rfl
  rcases Decidable.em ((1000 : Int) < o.rels.length) with c4 | c4
  · ((repeat refine WC.seq ?_); refine WC.run ?_)
    (try simp only [wk, wl, wx, reduceLT, reduceEqDiff, Nat.reduceBEq, reduceIte, fa27_1, fa27_2, fa27_3, fa27_4, fa27_5, Nat.zero_add, b1.at ty22 rfl, b1.at ty23 rfl, b1.at ty24 rfl, b1.at ty25 rfl, ob1.code.len, ob1.data.len, Sl.lenB ob1.syms ty23 rfl, Sl.lenB ob1.rels ty24 rfl, Sl.lenB ob1.needs ty25 rfl, decide_eq_false c1, decide_eq_false c2, decide_eq_false c3, decide_eq_true c4])
    (repeat refine WC.seq ?_)
    refine WC.cond (b := true) (by (try simp only [wk, wl, wx, reduceLT, reduceEqDiff, Nat.reduceBEq, reduceIte]); (try simp); (try omega)) ?_
    ((repeat refine WC.seq ?_); refine WC.run ?_)
    (try simp only [wk, wl, wx, reduceLT, reduceEqDiff, Nat.reduceBEq, reduceIte])
    refine WC.ret ?_
    (try simp only [wk, wl, wx, reduceLT, reduceEqDiff, Nat.reduceBEq, reduceIte])
    refine ⟨?_, f1⟩
    have hl : limE o = 18 := by rw [limE_eq, if_pos (by simp [c1, c2, c3, c4])]
    rw [checkE, orE_nz (by rw [hl]; decide), hl]; rfl
  rcases Decidable.em ((20 : Int) < o.needs.length) with c5 | c5
  · ((repeat refine WC.seq ?_); refine WC.run ?_)
    (try simp only [wk, wl, wx, reduceLT, reduceEqDiff, Nat.reduceBEq, reduceIte, fa27_1, fa27_2, fa27_3, fa27_4, fa27_5, Nat.zero_add, b1.at ty22 rfl, b1.at ty23 rfl, b1.at ty24 rfl, b1.at ty25 rfl, ob1.code.len, ob1.data.len, Sl.lenB ob1.syms ty23 rfl, Sl.lenB ob1.rels ty24 rfl, Sl.lenB ob1.needs ty25 rfl, decide_eq_false c1, decide_eq_false c2, decide_eq_false c3, decide_eq_false c4, decide_eq_true c5])
    (repeat refine WC.seq ?_)
    refine WC.cond (b := true) (by (try simp only [wk, wl, wx, reduceLT, reduceEqDiff, Nat.reduceBEq, reduceIte]); (try simp); (try omega)) ?_
    ((repeat refine WC.seq ?_); refine WC.run ?_)
    (try simp only [wk, wl, wx, reduceLT, reduceEqDiff, Nat.reduceBEq, reduceIte])
    refine WC.ret ?_
    (try simp only [wk, wl, wx, reduceLT, reduceEqDiff, Nat.reduceBEq, reduceIte])
    refine ⟨?_, f1⟩
    have hl : limE o = 18 := by rw [limE_eq, if_pos (by simp [c1, c2, c3, c4, c5])]
    rw [checkE, orE_nz (by rw [hl]; decide), hl]; rfl
  have hce : checkE o = orE (namesT [o.name, o.entry]) (orE (symsE o [] o.syms) (orE (relsE o [] o.rels) (orE (needsE [] o.needs) (entE o)))) := by
    rw [checkE, orE_z]; rw [limE_eq, if_neg (by simp only [c1, c2, c3, c4, c5, or_self, not_false_iff])]
  ((repeat refine WC.seq ?_); refine WC.run ?_)
  (try simp only [wk, wl, wx, reduceLT, reduceEqDiff, Nat.reduceBEq, reduceIte, fa27_1, fa27_2, fa27_3, fa27_4, fa27_5, Nat.zero_add, b1.at ty22 rfl, b1.at ty23 rfl, b1.at ty24 rfl, b1.at ty25 rfl, ob1.code.len, ob1.data.len, Sl.lenB ob1.syms ty23 rfl, Sl.lenB ob1.rels ty24 rfl, Sl.lenB ob1.needs ty25 rfl, decide_eq_false c1, decide_eq_false c2, decide_eq_false c3, decide_eq_false c4, decide_eq_false c5])
  (repeat refine WC.seq ?_)
  refine WC.cond (b := false) (by (try simp only [wk, wl, wx, reduceLT, reduceEqDiff, Nat.reduceBEq, reduceIte]); (try simp); (try omega)) (WC.skip ?_)
  (try simp only [wk, wl, wx, reduceLT, reduceEqDiff, Nat.reduceBEq, reduceIte])
  rw [namesT_two] at hce
  rcases Decidable.em ((64 : Int) < o.name.length) with d1 | d1
  · ((repeat refine WC.seq ?_); refine WC.run ?_)
    (try simp only [wk, wl, wx, reduceLT, reduceEqDiff, Nat.reduceBEq, reduceIte, fa27_0, fa27_6, Nat.zero_add, b1.at ty9 rfl, len_str, decide_eq_true d1])
    (repeat refine WC.seq ?_)
    refine WC.cond (b := true) (by (try simp only [wk, wl, wx, reduceLT, reduceEqDiff, Nat.reduceBEq, reduceIte]); (try simp); (try omega)) ?_
    ((repeat refine WC.seq ?_); refine WC.run ?_)
    (try simp only [wk, wl, wx, reduceLT, reduceEqDiff, Nat.reduceBEq, reduceIte])
    refine WC.ret ?_
    (try simp only [wk, wl, wx, reduceLT, reduceEqDiff, Nat.reduceBEq, reduceIte])
    refine ⟨?_, f1⟩
    rw [hce, if_pos (by simp [d1]), orE_nz (by decide)]; rfl
  rcases Decidable.em ((64 : Int) < o.entry.length) with d2 | d2
  · ((repeat refine WC.seq ?_); refine WC.run ?_)
    (try simp only [wk, wl, wx, reduceLT, reduceEqDiff, Nat.reduceBEq, reduceIte, fa27_0, fa27_6, Nat.zero_add, b1.at ty9 rfl, len_str, decide_eq_false d1, decide_eq_true d2])
    (repeat refine WC.seq ?_)
    refine WC.cond (b := true) (by (try simp only [wk, wl, wx, reduceLT, reduceEqDiff, Nat.reduceBEq, reduceIte]); (try simp); (try omega)) ?_
    ((repeat refine WC.seq ?_); refine WC.run ?_)
    (try simp only [wk, wl, wx, reduceLT, reduceEqDiff, Nat.reduceBEq, reduceIte])
    refine WC.ret ?_
    (try simp only [wk, wl, wx, reduceLT, reduceEqDiff, Nat.reduceBEq, reduceIte])
    refine ⟨?_, f1⟩
    rw [hce, if_pos (by simp [d1, d2]), orE_nz (by decide)]; rfl
  rw [if_neg (by simp only [d1, d2, or_self, not_false_iff]), orE_z rfl] at hce
  ((repeat refine WC.seq ?_); refine WC.run ?_)
  (try simp only [wk, wl, wx, reduceLT, reduceEqDiff, Nat.reduceBEq, reduceIte, fa27_0, fa27_6, Nat.zero_add, b1.at ty9 rfl, len_str, decide_eq_false d1, decide_eq_false d2])
  (repeat refine WC.seq ?_)
  refine WC.cond (b := false) (by (try simp only [wk, wl, wx, reduceLT, reduceEqDiff, Nat.reduceBEq, reduceIte]); (try simp); (try omega)) (WC.skip ?_)
  (try simp only [wk, wl, wx, reduceLT, reduceEqDiff, Nat.reduceBEq, reduceIte])
  ((repeat refine WC.seq ?_); refine WC.run ?_)
  (try simp only [wk, wl, wx, reduceLT, reduceEqDiff, Nat.reduceBEq, reduceIte, fa27_3, Nat.zero_add, b1.at ty23 rfl, Sl.lenB ob1.syms ty23 rfl])
  (repeat refine WC.seq ?_)
  refine WC.block ?_
  refine WC.while (fun m fr hk => ∃ ts i, fr = ⟨ts, 291, [], 10, none⟩ ∧ Fix (· < h1.next) h1 hk ∧ m = o.syms.length - i ∧ i ≤ o.syms.length ∧ ts.get 1 = some (.ptr h.next 0) ∧ ts.get 60 = some c.syms ∧ ts.get 61 = some (.int .i64 o.syms.length) ∧ ts.get 62 = some (.int .i64 i) ∧ symsE o (o.syms.take i) (o.syms.drop i) = symsE o [] o.syms) ?_ ⟨_, 0, rfl, Fix.refl _ _, rfl, by omega, ?_, ?_, ?_, ?_, rfl⟩
  · rintro m fr hk ⟨ts, i, rfl, ff, rfl, hi, t1, t60, t61, t62, hr⟩
    have xk := ff.next
    have bk := b1.fix ff (by omega)
    have obk := (ob1.fix ff (fun x hx => hx)).up (K' := (· < hk.next)) (fun x hx => by omega)
    have Fk0 : Kept h hk := f1.trans (ff.sub fun x hx => by omega)
    ((repeat refine WC.seq ?_); refine WC.run ?_)
    (try simp only [wk, wl, wx, reduceLT, reduceEqDiff, Nat.reduceBEq, reduceIte, t61, t62])
    (repeat refine WC.seq ?_)
    by_cases hlt : i < o.syms.length
    · refine WC.cond (b := true) (by (try simp only [wk, wl, wx, reduceLT, reduceEqDiff, Nat.reduceBEq, reduceIte]); (try simp); (try omega)) (WC.skip ?_)
      (try simp only [wk, wl, wx, reduceLT, reduceEqDiff, Nat.reduceBEq, reduceIte])
      obtain ⟨p, p1, p2⟩ := obk.syms.at (fun _ => rfl) ty23 rfl ty89 rfl (by decide) rfl hlt
      have p2 := p2 hk fun _ _ _ _ _ => rfl
      rw [List.drop_eq_getElem_cons hlt, symsE] at hr
      generalize hx : o.syms[i] = x at *
      (repeat refine WC.seq ?_)
      refine WC.block ?_
      ((repeat refine WC.seq ?_); refine WC.run ?_)
      (try simp only [wk, wl, wx, reduceLT, reduceEqDiff, Nat.reduceBEq, reduceIte, t60, t62, p1, p2])
      refine wop_alloc ty89 ?_
      intro h5 b5 n5 f5
      (try simp only [wk, wl, wx, reduceLT, reduceEqDiff, Nat.reduceBEq, reduceIte])
      refine sat_store b5 ty89 rfl (by decide) rfl ?_
      intro h6 b6 n6 f6
      have b6 : Has h6 hk.next [.str x.name, i64 x.sec, i64 x.off, .bool x.glob, .bool x.weak] := b6
      have Fk : Fix (· < hk.next) hk h6 := ⟨by omega, fun c hc => by rw [f6.same c (by omega), f5.same c hc]⟩
      have F6 : Fix (· < h1.next) h1 h6 := ff.trans (Fk.sub fun x hx => by omega)
      have K6 : Kept h h6 := Fk0.trans (Fk.sub fun x hx => by have := Fk0.next; omega)
      have bb := bk.fix Fk (by omega)
      have ob6 := (obk.fix Fk (fun x hx => hx)).up (K' := (· < h6.next)) (fun x hx => by omega)
      have l1 : loadP (E g) h6 9 (.ptr hk.next 0) = some (.str x.name) := b6.at ty9 rfl 0
      (try simp only [wk, wl, wx, reduceLT, reduceEqDiff, Nat.reduceBEq, reduceIte])
      ((repeat refine WC.seq ?_); refine WC.run ?_)
      (try simp only [wk, wl, wx, reduceLT, reduceEqDiff, Nat.reduceBEq, reduceIte, fa89_0, Nat.zero_add, l1])
      refine rnamed_ok.mono fun v h7 ⟨e7, e7'⟩ => ?_
      subst e7 e7'
      (try simp only [wk, wl, wx, reduceLT, reduceEqDiff, Nat.reduceBEq, reduceIte])
      ((repeat refine WC.seq ?_); refine WC.run ?_)
      (try simp only [wk, wl, wx, reduceLT, reduceEqDiff, Nat.reduceBEq, reduceIte])
      (repeat refine WC.seq ?_)
      rcases (Decidable.em (nameE x.name = 0)).symm with hn | hn
      · refine WC.cond (b := true) (by (try simp only [wk, wl, wx, reduceLT, reduceEqDiff, Nat.reduceBEq, reduceIte, hn]); (try simp); (try omega)) ?_
        ((repeat refine WC.seq ?_); refine WC.run ?_)
        (try simp only [wk, wl, wx, reduceLT, reduceEqDiff, Nat.reduceBEq, reduceIte])
        refine WC.ret ?_
        (try simp only [wk, wl, wx, reduceLT, reduceEqDiff, Nat.reduceBEq, reduceIte])
        have hs : symE o x (hasN x.name (o.syms.take i)) = nameE x.name := by rw [symE, if_pos hn]
        rw [hs, orE_nz hn] at hr
        exact ⟨by rw [hce, ← hr, orE_nz hn] <;> rfl, K6⟩
      refine WC.cond (b := false) (by (try simp only [wk, wl, wx, reduceLT, reduceEqDiff, Nat.reduceBEq, reduceIte, hn]); (try simp); (try omega)) (WC.skip ?_)
      (try simp only [wk, wl, wx, reduceLT, reduceEqDiff, Nat.reduceBEq, reduceIte])
      -- those before
      obtain ⟨s', q1, q2, q3⟩ := Rcs.upto ob6.syms (fun _ => rfl) ty23 rfl ty89 rfl (n := i) (by omega)
      have hll : (o.syms.take i).length = i := by simp; omega
      ((repeat refine WC.seq ?_); refine WC.run ?_)
      (try simp only [wk, wl, wx, reduceLT, reduceEqDiff, Nat.reduceBEq, reduceIte, t1, t62, fa27_3, Nat.zero_add, bb.at ty23 rfl, q1, Sl.lenB q2 ty23 rfl, hll])
      (repeat refine WC.seq ?_)
      refine WC.block ?_
      refine WC.while (fun m fr hj => ∃ ts j, fr = ⟨ts, 291, [], 10, none⟩ ∧ Fix (· < h7.next) h7 hj ∧ m = i - j ∧ j ≤ i ∧ ts.get 1 = some (.ptr h.next 0) ∧ ts.get 4 = some (.ptr hk.next 0) ∧ ts.get 60 = some c.syms ∧ ts.get 61 = some (.int .i64 o.syms.length) ∧ ts.get 62 = some (.int .i64 i) ∧ ts.get 76 = some s' ∧ ts.get 77 = some (.int .i64 i) ∧ ts.get 78 = some (.int .i64 j) ∧ hasN x.name ((o.syms.take i).take j) = false) ?_ ⟨_, 0, rfl, Fix.refl _ _, rfl, by omega, ?_, ?_, ?_, ?_, ?_, ?_, ?_, ?_, rfl⟩
      · rintro m fr hj ⟨ts, j, rfl, fj, rfl, hji, t1, t4, t60, t61, t62, t76, t77, t78, hno⟩
        have xj := fj.next
        have Fj : Fix (· < h1.next) h1 hj := F6.trans (fj.sub fun x hx => by omega)
        have Kj : Kept h hj := K6.trans (fj.sub fun x hx => by have := K6.next; omega)
        have bj := b6.fix fj (by omega)
        ((repeat refine WC.seq ?_); refine WC.run ?_)
        (try simp only [wk, wl, wx, reduceLT, reduceEqDiff, Nat.reduceBEq, reduceIte, t77, t78])
        (repeat refine WC.seq ?_)
        by_cases hjt : j < i
        · refine WC.cond (b := true) (by (try simp only [wk, wl, wx, reduceLT, reduceEqDiff, Nat.reduceBEq, reduceIte]); (try simp); (try omega)) (WC.skip ?_)
          (try simp only [wk, wl, wx, reduceLT, reduceEqDiff, Nat.reduceBEq, reduceIte])
          have hjl : j < (o.syms.take i).length := by omega
          obtain ⟨p, p1, p2⟩ := q2.at (fun _ => rfl) ty23 rfl ty89 rfl (by decide) rfl hjl
          have p2 := p2 hj fun b o m c e => fj.same b (by have := q3 _ ob6.inS _ _ _ _ e; omega)
          generalize hy : (o.syms.take i)[j] = y at *
          (repeat refine WC.seq ?_)
          refine WC.block ?_
          ((repeat refine WC.seq ?_); refine WC.run ?_)
          (try simp only [wk, wl, wx, reduceLT, reduceEqDiff, Nat.reduceBEq, reduceIte, t76, t78, p1, p2])
          refine wop_alloc ty89 ?_
          intro h8 b8 n8 f8
          (try simp only [wk, wl, wx, reduceLT, reduceEqDiff, Nat.reduceBEq, reduceIte])
          refine sat_store b8 ty89 rfl (by decide) rfl ?_
          intro h9 b9 n9 f9
          have b9 : Has h9 hj.next (symV y) := b9
          have Fk9 : Fix (· < hj.next) hj h9 := ⟨by omega, fun c hc => by rw [f9.same c (by omega), f8.same c hc]⟩
          have l9 : loadP (E g) h9 9 (.ptr hj.next 0) = some (.str y.name) := b9.at ty9 rfl 0
          have l8 : loadP (E g) h9 9 (.ptr hk.next 0) = some (.str x.name) := (bj.fix Fk9 (by omega)).at ty9 rfl 0
          (try simp only [wk, wl, wx, reduceLT, reduceEqDiff, Nat.reduceBEq, reduceIte])
          ((repeat refine WC.seq ?_); refine WC.run ?_)
          (try simp only [wk, wl, wx, reduceLT, reduceEqDiff, Nat.reduceBEq, reduceIte, t4, fa89_0, Nat.zero_add, l8, l9, bin_seql])
          (repeat refine WC.seq ?_)
          cases hb : (y.name == x.name) with
          | true =>
            refine WC.cond (b := true) (by (try simp only [wk, wl, wx, reduceLT, reduceEqDiff, Nat.reduceBEq, reduceIte, hb]); (try simp); (try omega)) ?_
            ((repeat refine WC.seq ?_); refine WC.run ?_)
            (try simp only [wk, wl, wx, reduceLT, reduceEqDiff, Nat.reduceBEq, reduceIte])
            refine WC.ret ?_
            (try simp only [wk, wl, wx, reduceLT, reduceEqDiff, Nat.reduceBEq, reduceIte])
            have ht : hasN x.name (o.syms.take i) = true := hasN_true hjl (by rw [hy]; exact eq_of_beq hb)
            have hs : symE o x (hasN x.name (o.syms.take i)) = 38 := by rw [symE, if_neg (by simp [hn]), if_pos ht]
            rw [hs, orE_nz (by decide)] at hr
            exact ⟨by rw [hce, ← hr, orE_nz (by decide)] <;> rfl, Kj.trans (Fk9.sub fun x hx => by have := Kj.next; omega)⟩
          | false =>
            refine WC.cond (b := false) (by (try simp only [wk, wl, wx, reduceLT, reduceEqDiff, Nat.reduceBEq, reduceIte, hb]); (try simp); (try omega)) (WC.skip ?_)
            (try simp only [wk, wl, wx, reduceLT, reduceEqDiff, Nat.reduceBEq, reduceIte])
            ((repeat refine WC.seq ?_); refine WC.run ?_)
            (try simp only [wk, wl, wx, reduceLT, reduceEqDiff, Nat.reduceBEq, reduceIte, t78, bin_add])
            refine ⟨_, ?_, _, j + 1, rfl, fj.trans (Fk9.sub fun x hx => by omega), rfl, by omega, ?_⟩
            · omega
            (try simp only [wk, wl, wx, reduceLT, reduceEqDiff, Nat.reduceBEq, reduceIte, t1, t4, t60, t61, t62, t76, t77])
            refine ⟨trivial, trivial, trivial, trivial, trivial, trivial, trivial, ?_, ?_⟩
            · rw [wrap64 (by omega) (by omega)]; rfl
            · rw [List.take_succ_eq_append_getElem hjl, hasN_snoc hno, hy, hb]
        · refine WC.cond (b := false) (by (try simp only [wk, wl, wx, reduceLT, reduceEqDiff, Nat.reduceBEq, reduceIte]); (try simp); (try omega)) (WC.exit ?_)
          have : j = i := by omega
          subst this
          have hno : hasN x.name (o.syms.take j) = false := by rwa [List.take_of_length_le (by omega)] at hno
          rw [hno] at hr
          (try simp only [wk, wl, wx, reduceLT, reduceEqDiff, Nat.reduceBEq, reduceIte])
          have bb := bb.fix fj (by omega)
          have obj := (ob6.fix fj (fun x hx => hx)).up (K' := (· < hj.next)) (fun x hx => by omega)
          have l2 : loadP (E g) hj 3 (.ptr hk.next 1) = some (.int .i64 x.sec) := bj.at ty3 rfl 1
          have l3 : loadP (E g) hj 2 (.ptr hk.next 2) = some (.int .i64 x.off) := bj.at ty2 rfl 2
          have l4 : loadP (E g) hj 4 (.ptr hk.next 3) = some (.bool x.glob) := bj.at ty4 rfl 3
          have l5 : loadP (E g) hj 4 (.ptr hk.next 4) = some (.bool x.weak) := bj.at ty4 rfl 4
          have lo : loadP (E g) hj 27 (.ptr h.next 0) = some (.agg (c.cells o)) := bb.agg ty27 rfl (o := 0) (by show 0 + 7 ≤ 7; decide)
          have hS : symE o x false = if x.sec < 0 ∨ 2 < x.sec ∨ x.off < 0 ∨ secLen o x.sec < x.off then 34 else if x.glob = false ∧ (x.sec = 0 ∨ x.weak = true) then 14 else 0 := by
            rw [symE, if_neg (by simp [hn]), if_neg (by simp)]
          (repeat refine WC.seq ?_)
          refine WC.mono (Q := fun e fr h' => e = .normal ∧ ∃ ts', fr = ⟨ts', 291, [], 10, none⟩ ∧ ts'.get 125 = some (.bool (decide (x.sec < 0 ∨ 2 < x.sec ∨ x.off < 0 ∨ secLen o x.sec < x.off))) ∧ ts'.get 1 = some (.ptr h.next 0) ∧ ts'.get 4 = some (.ptr hk.next 0) ∧ ts'.get 60 = some c.syms ∧ ts'.get 61 = some (.int .i64 o.syms.length) ∧ ts'.get 62 = some (.int .i64 j) ∧ Kept hj h') ?_ ?_
          · skip
            rcases Decidable.em (x.sec < 0) with r1 | r1
            · ((repeat refine WC.seq ?_); refine WC.draw (plans := pl10_17) (by kernel_rfl) ?_; simp only [pl10_17, List.mem_cons, List.not_mem_nil, or_false, forall_eq_or_imp, forall_eq])
              generalize htl : ([⟨24, false, false, []⟩, ⟨25, false, true, []⟩, ⟨26, false, true, []⟩, ⟨27, false, false, []⟩, ⟨28, false, false, []⟩, ⟨29, false, true, []⟩, ⟨30, false, true, []⟩, ⟨31, false, false, []⟩, ⟨32, false, true, []⟩, ⟨33, true, false, [29]⟩, ⟨34, false, true, []⟩, ⟨35, false, true, []⟩, ⟨36, false, false, []⟩, ⟨37, false, false, []⟩] : List Stp) = tl
              (try simp (maxSteps := 2000000) only [wk, wl, wx, reduceLT, reduceEqDiff, Nat.reduceBEq, reduceIte, wd, Chk, and_true, true_and, un, t1, t4, fa89_1, fa89_2, Nat.zero_add, l2, l3, hz, hnz, Bool.not_true, Bool.not_false, decide_eq_true r1])
              refine WPlan_cut [(111, .bool true), (1, .ptr h.next 0), (4, .ptr hk.next 0), (60, c.syms), (61, .int .i64 o.syms.length), (62, .int .i64 j)] ?_ ?_
              · simp only [List.mem_cons, List.not_mem_nil, or_false, forall_eq_or_imp, forall_eq]
                (try simp only [wk, wl, wx, reduceLT, reduceEqDiff, Nat.reduceBEq, reduceIte, t1, t4, t60, t61, t62])
                exact ⟨by trivial, by trivial, by trivial, by trivial, by trivial, by trivial⟩
              clear t1 t4 t60 t61 t62
              intro ts2 hts
              simp only [List.mem_cons, List.not_mem_nil, or_false, forall_eq_or_imp, forall_eq] at hts
              obtain ⟨t111, t1, t4, t60, t61, t62⟩ := hts
              subst htl
              (try simp (maxSteps := 2000000) only [wk, wl, wx, reduceLT, reduceEqDiff, Nat.reduceBEq, reduceIte, wd, Chk, and_true, true_and, un, t111, t1, t4, fa89_1, fa89_2, Nat.zero_add, l2, l3])
              refine ⟨_, rfl, ?_, ?_, ?_, ?_, ?_, ?_, Fix.refl _ _⟩
              all_goals (try simp only [wk, wl, wx, reduceLT, reduceEqDiff, Nat.reduceBEq, reduceIte, t1, t4, t60, t61, t62])
              have hB : (x.sec < 0 ∨ 2 < x.sec ∨ x.off < 0 ∨ secLen o x.sec < x.off) := by omega
              rw [decide_eq_true hB]
            rcases Decidable.em ((2 : Int) < x.sec) with r2 | r2
            · ((repeat refine WC.seq ?_); refine WC.draw (plans := pl10_17) (by kernel_rfl) ?_; simp only [pl10_17, List.mem_cons, List.not_mem_nil, or_false, forall_eq_or_imp, forall_eq])
              generalize htl : ([⟨24, false, false, []⟩, ⟨25, false, true, []⟩, ⟨26, false, true, []⟩, ⟨27, false, false, []⟩, ⟨28, false, false, []⟩, ⟨29, false, true, []⟩, ⟨30, false, true, []⟩, ⟨31, false, false, []⟩, ⟨32, false, true, []⟩, ⟨33, true, false, [29]⟩, ⟨34, false, true, []⟩, ⟨35, false, true, []⟩, ⟨36, false, false, []⟩, ⟨37, false, false, []⟩] : List Stp) = tl
              (try simp (maxSteps := 2000000) only [wk, wl, wx, reduceLT, reduceEqDiff, Nat.reduceBEq, reduceIte, wd, Chk, and_true, true_and, un, t1, t4, fa89_1, fa89_2, Nat.zero_add, l2, l3, hz, hnz, Bool.not_true, Bool.not_false, decide_eq_false r1, decide_eq_true r2])
              refine WPlan_cut [(111, .bool true), (1, .ptr h.next 0), (4, .ptr hk.next 0), (60, c.syms), (61, .int .i64 o.syms.length), (62, .int .i64 j)] ?_ ?_
              · simp only [List.mem_cons, List.not_mem_nil, or_false, forall_eq_or_imp, forall_eq]
                (try simp only [wk, wl, wx, reduceLT, reduceEqDiff, Nat.reduceBEq, reduceIte, t1, t4, t60, t61, t62])
                exact ⟨by trivial, by trivial, by trivial, by trivial, by trivial, by trivial⟩
              clear t1 t4 t60 t61 t62
              intro ts2 hts
              simp only [List.mem_cons, List.not_mem_nil, or_false, forall_eq_or_imp, forall_eq] at hts
              obtain ⟨t111, t1, t4, t60, t61, t62⟩ := hts
              subst htl
              (try simp (maxSteps := 2000000) only [wk, wl, wx, reduceLT, reduceEqDiff, Nat.reduceBEq, reduceIte, wd, Chk, and_true, true_and, un, t111, t1, t4, fa89_1, fa89_2, Nat.zero_add, l2, l3])
              refine ⟨_, rfl, ?_, ?_, ?_, ?_, ?_, ?_, Fix.refl _ _⟩
              all_goals (try simp only [wk, wl, wx, reduceLT, reduceEqDiff, Nat.reduceBEq, reduceIte, t1, t4, t60, t61, t62])
              have hB : (x.sec < 0 ∨ 2 < x.sec ∨ x.off < 0 ∨ secLen o x.sec < x.off) := by omega
              rw [decide_eq_true hB]
            rcases Decidable.em (x.off < 0) with r3 | r3
            · ((repeat refine WC.seq ?_); refine WC.draw (plans := pl10_17) (by kernel_rfl) ?_; simp only [pl10_17, List.mem_cons, List.not_mem_nil, or_false, forall_eq_or_imp, forall_eq])
              generalize htl : ([⟨24, false, false, []⟩, ⟨25, false, true, []⟩, ⟨26, false, true, []⟩, ⟨27, false, false, []⟩, ⟨28, false, false, []⟩, ⟨29, false, true, []⟩, ⟨30, false, true, []⟩, ⟨31, false, false, []⟩, ⟨32, false, true, []⟩, ⟨33, true, false, [29]⟩, ⟨34, false, true, []⟩, ⟨35, false, true, []⟩, ⟨36, false, false, []⟩, ⟨37, false, false, []⟩] : List Stp) = tl
              (try simp (maxSteps := 2000000) only [wk, wl, wx, reduceLT, reduceEqDiff, Nat.reduceBEq, reduceIte, wd, Chk, and_true, true_and, un, t1, t4, fa89_1, fa89_2, Nat.zero_add, l2, l3, hz, hnz, Bool.not_true, Bool.not_false, decide_eq_false r1, decide_eq_false r2, decide_eq_true r3])
              refine WPlan_cut [(111, .bool true), (1, .ptr h.next 0), (4, .ptr hk.next 0), (60, c.syms), (61, .int .i64 o.syms.length), (62, .int .i64 j)] ?_ ?_
              · simp only [List.mem_cons, List.not_mem_nil, or_false, forall_eq_or_imp, forall_eq]
                (try simp only [wk, wl, wx, reduceLT, reduceEqDiff, Nat.reduceBEq, reduceIte, t1, t4, t60, t61, t62])
                exact ⟨by trivial, by trivial, by trivial, by trivial, by trivial, by trivial⟩
              clear t1 t4 t60 t61 t62
              intro ts2 hts
              simp only [List.mem_cons, List.not_mem_nil, or_false, forall_eq_or_imp, forall_eq] at hts
              obtain ⟨t111, t1, t4, t60, t61, t62⟩ := hts
              subst htl
              (try simp (maxSteps := 2000000) only [wk, wl, wx, reduceLT, reduceEqDiff, Nat.reduceBEq, reduceIte, wd, Chk, and_true, true_and, un, t111, t1, t4, fa89_1, fa89_2, Nat.zero_add, l2, l3])
              refine ⟨_, rfl, ?_, ?_, ?_, ?_, ?_, ?_, Fix.refl _ _⟩
              all_goals (try simp only [wk, wl, wx, reduceLT, reduceEqDiff, Nat.reduceBEq, reduceIte, t1, t4, t60, t61, t62])
              have hB : (x.sec < 0 ∨ 2 < x.sec ∨ x.off < 0 ∨ secLen o x.sec < x.off) := by omega
              rw [decide_eq_true hB]
            by_cases r4 : x.sec = 0
            · have hsl : secLen o x.sec = 0 := by rw [r4]; rfl
              have r6 : ¬ (0 : Int) < x.sec := by omega
              by_cases r5 : x.off = 0
              · ((repeat refine WC.seq ?_); refine WC.draw (plans := pl10_17) (by kernel_rfl) ?_; simp only [pl10_17, List.mem_cons, List.not_mem_nil, or_false, forall_eq_or_imp, forall_eq])
                generalize htl : ([⟨24, false, false, []⟩, ⟨25, false, true, []⟩, ⟨26, false, true, []⟩, ⟨27, false, false, []⟩, ⟨28, false, false, []⟩, ⟨29, false, true, []⟩, ⟨30, false, true, []⟩, ⟨31, false, false, []⟩, ⟨32, false, true, []⟩, ⟨33, true, false, [29]⟩, ⟨34, false, true, []⟩, ⟨35, false, true, []⟩, ⟨36, false, false, []⟩, ⟨37, false, false, []⟩] : List Stp) = tl
                (try simp (maxSteps := 2000000) only [wk, wl, wx, reduceLT, reduceEqDiff, Nat.reduceBEq, reduceIte, wd, Chk, and_true, true_and, un, t1, t4, fa89_1, fa89_2, Nat.zero_add, l2, l3, hz, hnz, Bool.not_true, Bool.not_false, decide_eq_false r1, decide_eq_false r2, decide_eq_false r3, decide_eq_true r4, decide_eq_true r5])
                refine WPlan_cut [(111, .bool false), (1, .ptr h.next 0), (4, .ptr hk.next 0), (60, c.syms), (61, .int .i64 o.syms.length), (62, .int .i64 j)] ?_ ?_
                · simp only [List.mem_cons, List.not_mem_nil, or_false, forall_eq_or_imp, forall_eq]
                  (try simp only [wk, wl, wx, reduceLT, reduceEqDiff, Nat.reduceBEq, reduceIte, t1, t4, t60, t61, t62])
                  exact ⟨by trivial, by trivial, by trivial, by trivial, by trivial, by trivial⟩
                clear t1 t4 t60 t61 t62
                intro ts2 hts
                simp only [List.mem_cons, List.not_mem_nil, or_false, forall_eq_or_imp, forall_eq] at hts
                obtain ⟨t111, t1, t4, t60, t61, t62⟩ := hts
                subst htl
                (try simp (maxSteps := 2000000) only [wk, wl, wx, reduceLT, reduceEqDiff, Nat.reduceBEq, reduceIte, wd, Chk, and_true, true_and, un, t111, t1, t4, fa89_1, fa89_2, Nat.zero_add, l2, l3, decide_eq_false r6])
                refine ⟨_, rfl, ?_, ?_, ?_, ?_, ?_, ?_, Fix.refl _ _⟩
                all_goals (try simp only [wk, wl, wx, reduceLT, reduceEqDiff, Nat.reduceBEq, reduceIte, t1, t4, t60, t61, t62])
                have hB : ¬ (x.sec < 0 ∨ 2 < x.sec ∨ x.off < 0 ∨ secLen o x.sec < x.off) := by omega
                rw [decide_eq_false hB]
              · ((repeat refine WC.seq ?_); refine WC.draw (plans := pl10_17) (by kernel_rfl) ?_; simp only [pl10_17, List.mem_cons, List.not_mem_nil, or_false, forall_eq_or_imp, forall_eq])
                generalize htl : ([⟨24, false, false, []⟩, ⟨25, false, true, []⟩, ⟨26, false, true, []⟩, ⟨27, false, false, []⟩, ⟨28, false, false, []⟩, ⟨29, false, true, []⟩, ⟨30, false, true, []⟩, ⟨31, false, false, []⟩, ⟨32, false, true, []⟩, ⟨33, true, false, [29]⟩, ⟨34, false, true, []⟩, ⟨35, false, true, []⟩, ⟨36, false, false, []⟩, ⟨37, false, false, []⟩] : List Stp) = tl
                (try simp (maxSteps := 2000000) only [wk, wl, wx, reduceLT, reduceEqDiff, Nat.reduceBEq, reduceIte, wd, Chk, and_true, true_and, un, t1, t4, fa89_1, fa89_2, Nat.zero_add, l2, l3, hz, hnz, Bool.not_true, Bool.not_false, decide_eq_false r1, decide_eq_false r2, decide_eq_false r3, decide_eq_true r4, decide_eq_false r5])
                refine WPlan_cut [(111, .bool true), (1, .ptr h.next 0), (4, .ptr hk.next 0), (60, c.syms), (61, .int .i64 o.syms.length), (62, .int .i64 j)] ?_ ?_
                · simp only [List.mem_cons, List.not_mem_nil, or_false, forall_eq_or_imp, forall_eq]
                  (try simp only [wk, wl, wx, reduceLT, reduceEqDiff, Nat.reduceBEq, reduceIte, t1, t4, t60, t61, t62])
                  exact ⟨by trivial, by trivial, by trivial, by trivial, by trivial, by trivial⟩
                clear t1 t4 t60 t61 t62
                intro ts2 hts
                simp only [List.mem_cons, List.not_mem_nil, or_false, forall_eq_or_imp, forall_eq] at hts
                obtain ⟨t111, t1, t4, t60, t61, t62⟩ := hts
                subst htl
                (try simp (maxSteps := 2000000) only [wk, wl, wx, reduceLT, reduceEqDiff, Nat.reduceBEq, reduceIte, wd, Chk, and_true, true_and, un, t111, t1, t4, fa89_1, fa89_2, Nat.zero_add, l2, l3])
                refine ⟨_, rfl, ?_, ?_, ?_, ?_, ?_, ?_, Fix.refl _ _⟩
                all_goals (try simp only [wk, wl, wx, reduceLT, reduceEqDiff, Nat.reduceBEq, reduceIte, t1, t4, t60, t61, t62])
                have hB : (x.sec < 0 ∨ 2 < x.sec ∨ x.off < 0 ∨ secLen o x.sec < x.off) := by omega
                rw [decide_eq_true hB]
            · have r6 : (0 : Int) < x.sec := by omega
              have hlen : ∀ h', lenB (E g) h' 22 (if x.sec = 1 then c.code else c.data) = some (.int .i64 (secLen o x.sec)) := by
                intro h'
                unfold secLen
                by_cases q : x.sec = 1
                · rw [if_pos q, if_pos q]; exact obj.code.len
                · rw [if_neg q, if_neg q, if_pos (by omega)]; exact obj.data.len
              ((repeat refine WC.seq ?_); refine WC.draw (plans := pl10_17) (by kernel_rfl) ?_; simp only [pl10_17, List.mem_cons, List.not_mem_nil, or_false, forall_eq_or_imp, forall_eq])
              generalize htl : ([⟨24, false, false, []⟩, ⟨25, false, true, []⟩, ⟨26, false, true, []⟩, ⟨27, false, false, []⟩, ⟨28, false, false, []⟩, ⟨29, false, true, []⟩, ⟨30, false, true, []⟩, ⟨31, false, false, []⟩, ⟨32, false, true, []⟩, ⟨33, true, false, [29]⟩, ⟨34, false, true, []⟩, ⟨35, false, true, []⟩, ⟨36, false, false, []⟩, ⟨37, false, false, []⟩] : List Stp) = tl
              (try simp (maxSteps := 2000000) only [wk, wl, wx, reduceLT, reduceEqDiff, Nat.reduceBEq, reduceIte, wd, Chk, and_true, true_and, un, t1, t4, fa89_1, fa89_2, Nat.zero_add, l2, l3, hz, hnz, decide_eq_false r1, decide_eq_false r2, decide_eq_false r3, decide_eq_false r4])
              refine WPlan_cut [(111, .bool false), (1, .ptr h.next 0), (4, .ptr hk.next 0), (60, c.syms), (61, .int .i64 o.syms.length), (62, .int .i64 j)] ?_ ?_
              · simp only [List.mem_cons, List.not_mem_nil, or_false, forall_eq_or_imp, forall_eq]
                (try simp only [wk, wl, wx, reduceLT, reduceEqDiff, Nat.reduceBEq, reduceIte, t1, t4, t60, t61, t62])
                exact ⟨by trivial, by trivial, by trivial, by trivial, by trivial, by trivial⟩
              intro ts2 hts
              simp only [List.mem_cons, List.not_mem_nil, or_false, forall_eq_or_imp, forall_eq] at hts
              obtain ⟨t111, t1, t4, t60, t61, t62⟩ := hts
              subst htl
              (try simp (maxSteps := 2000000) only [wk, wl, wx, reduceLT, reduceEqDiff, Nat.reduceBEq, reduceIte, wd, Chk, and_true, true_and, un, t111, t1, t4, fa89_1, fa89_2, Nat.zero_add, l2, l3, lo, decide_eq_true r6])
              refine section_ok.mono fun v h8 ⟨e8, f8⟩ => ?_
              subst e8
              have l2' : loadP (E g) h8 3 (.ptr hk.next 1) = some (.int .i64 x.sec) := (bj.fix f8 (by omega)).at ty3 rfl 1
              have l3' : loadP (E g) h8 2 (.ptr hk.next 2) = some (.int .i64 x.off) := (bj.fix f8 (by omega)).at ty2 rfl 2
              (try simp (maxSteps := 2000000) only [wk, wl, wx, reduceLT, reduceEqDiff, Nat.reduceBEq, reduceIte, wd, Chk, and_true, true_and, un, t111, t1, t4, fa89_1, fa89_2, Nat.zero_add, l2', l3', hlen, hz, hnz, decide_eq_false r1, decide_eq_false r2, decide_eq_false r3, decide_eq_false r4, decide_eq_true r6])
              refine ⟨_, rfl, ?_, ?_, ?_, ?_, ?_, ?_, f8⟩
              all_goals (try simp only [wk, wl, wx, reduceLT, reduceEqDiff, Nat.reduceBEq, reduceIte, t1, t4, t60, t61, t62])
              have hB : (x.sec < 0 ∨ 2 < x.sec ∨ x.off < 0 ∨ secLen o x.sec < x.off) ↔ secLen o x.sec < x.off := by omega
              simp only [hB]
          rintro e fr h8 ⟨rfl, ts, rfl, t125, t1, t4, t60, t61, t62, f8⟩
          have l2 : loadP (E g) h8 3 (.ptr hk.next 1) = some (.int .i64 x.sec) := (bj.fix f8 (by omega)).at ty3 rfl 1
          have l4 : loadP (E g) h8 4 (.ptr hk.next 3) = some (.bool x.glob) := (bj.fix f8 (by omega)).at ty4 rfl 3
          have l5 : loadP (E g) h8 4 (.ptr hk.next 4) = some (.bool x.weak) := (bj.fix f8 (by omega)).at ty4 rfl 4
          have K8 : Kept h h8 := Kj.trans (f8.sub fun x hx => by have := Kj.next; omega)
          have F8 : Fix (· < h1.next) h1 h8 := Fj.trans (f8.sub fun x hx => by omega)
          (try simp only [wk, wl, wx, reduceLT, reduceEqDiff, Nat.reduceBEq, reduceIte])
          (repeat refine WC.seq ?_)
          by_cases hB : (x.sec < 0 ∨ 2 < x.sec ∨ x.off < 0 ∨ secLen o x.sec < x.off)
          · rw [decide_eq_true hB] at t125
            refine WC.cond (b := true) (by (try simp only [wk, wl, wx, reduceLT, reduceEqDiff, Nat.reduceBEq, reduceIte, t125]); (try simp); (try omega)) ?_
            ((repeat refine WC.seq ?_); refine WC.run ?_)
            (try simp only [wk, wl, wx, reduceLT, reduceEqDiff, Nat.reduceBEq, reduceIte])
            refine WC.ret ?_
            (try simp only [wk, wl, wx, reduceLT, reduceEqDiff, Nat.reduceBEq, reduceIte])
            rw [hS, if_pos hB, orE_nz (by decide)] at hr
            exact ⟨by rw [hce, ← hr, orE_nz (by decide)] <;> rfl, K8⟩
          rw [decide_eq_false hB] at t125
          rw [hS, if_neg hB] at hr
          refine WC.cond (b := false) (by (try simp only [wk, wl, wx, reduceLT, reduceEqDiff, Nat.reduceBEq, reduceIte, t125]); (try simp); (try omega)) (WC.skip ?_)
          (try simp only [wk, wl, wx, reduceLT, reduceEqDiff, Nat.reduceBEq, reduceIte])
          cases hg : x.glob with
          | true =>
            rw [hg] at l4
            rw [if_neg (by simp [hg]), orE_z rfl] at hr
            by_cases s1 : x.sec = 0
            all_goals cases s2 : x.weak
            all_goals rw [s2] at l5
            all_goals ((repeat refine WC.seq ?_); refine WC.run ?_)
            all_goals (first | (try simp only [wk, wl, wx, reduceLT, reduceEqDiff, Nat.reduceBEq, reduceIte, un, t4, fa89_1, fa89_3, fa89_4, Nat.zero_add, l2, l4, l5, hz, un_not, Bool.not_true, decide_eq_true s1]) | skip)
            all_goals (first | (try simp only [wk, wl, wx, reduceLT, reduceEqDiff, Nat.reduceBEq, reduceIte, un, t4, fa89_1, fa89_3, fa89_4, Nat.zero_add, l2, l4, l5, hz, un_not, Bool.not_true, decide_eq_false s1]) | skip)
            all_goals (repeat refine WC.seq ?_)
            all_goals refine WC.cond (b := false) (by (try simp only [wk, wl, wx, reduceLT, reduceEqDiff, Nat.reduceBEq, reduceIte]); (try simp); (try omega)) (WC.skip ?_)
            all_goals (try simp only [wk, wl, wx, reduceLT, reduceEqDiff, Nat.reduceBEq, reduceIte])
            all_goals ((repeat refine WC.seq ?_); refine WC.run ?_)
            all_goals (try simp only [wk, wl, wx, reduceLT, reduceEqDiff, Nat.reduceBEq, reduceIte, t62, bin_add])
            all_goals refine ⟨_, ?_, _, j + 1, rfl, F8, rfl, by omega, ?_⟩
            all_goals first | omega | skip
            all_goals (try simp only [wk, wl, wx, reduceLT, reduceEqDiff, Nat.reduceBEq, reduceIte, t1, t60, t61])
            all_goals refine ⟨trivial, trivial, trivial, ?_, ?_⟩
            all_goals first
              | (rw [List.take_succ_eq_append_getElem hlt, hx]; exact hr)
              | (rw [wrap64 (by omega) (by omega)]; rfl)
          | false =>
            rw [hg] at l4
            rcases Decidable.em (x.sec = 0) with s1 | s1
            · ((repeat refine WC.seq ?_); refine WC.run ?_)
              (try simp only [wk, wl, wx, reduceLT, reduceEqDiff, Nat.reduceBEq, reduceIte, un, t4, fa89_1, fa89_3, fa89_4, Nat.zero_add, l2, l4, l5, hz, un_not, Bool.not_false, decide_eq_true s1])
              (repeat refine WC.seq ?_)
              refine WC.cond (b := true) (by (try simp only [wk, wl, wx, reduceLT, reduceEqDiff, Nat.reduceBEq, reduceIte]); (try simp); (try omega)) ?_
              ((repeat refine WC.seq ?_); refine WC.run ?_)
              (try simp only [wk, wl, wx, reduceLT, reduceEqDiff, Nat.reduceBEq, reduceIte])
              refine WC.ret ?_
              (try simp only [wk, wl, wx, reduceLT, reduceEqDiff, Nat.reduceBEq, reduceIte])
              rw [if_pos (by simp [hg, s1]), orE_nz (by decide)] at hr
              exact ⟨by rw [hce, ← hr, orE_nz (by decide)] <;> rfl, K8⟩
            rcases Bool.eq_false_or_eq_true (x.weak) with s2 | s2
            · ((repeat refine WC.seq ?_); refine WC.run ?_)
              (try simp only [wk, wl, wx, reduceLT, reduceEqDiff, Nat.reduceBEq, reduceIte, un, t4, fa89_1, fa89_3, fa89_4, Nat.zero_add, l2, l4, l5, hz, un_not, Bool.not_false, decide_eq_false s1, s2])
              (repeat refine WC.seq ?_)
              refine WC.cond (b := true) (by (try simp only [wk, wl, wx, reduceLT, reduceEqDiff, Nat.reduceBEq, reduceIte]); (try simp); (try omega)) ?_
              ((repeat refine WC.seq ?_); refine WC.run ?_)
              (try simp only [wk, wl, wx, reduceLT, reduceEqDiff, Nat.reduceBEq, reduceIte])
              refine WC.ret ?_
              (try simp only [wk, wl, wx, reduceLT, reduceEqDiff, Nat.reduceBEq, reduceIte])
              rw [if_pos (by simp [hg, s1, s2]), orE_nz (by decide)] at hr
              exact ⟨by rw [hce, ← hr, orE_nz (by decide)] <;> rfl, K8⟩
            rw [if_neg (by simp [hg, s1, s2]), orE_z rfl] at hr
            ((repeat refine WC.seq ?_); refine WC.run ?_)
            (try simp only [wk, wl, wx, reduceLT, reduceEqDiff, Nat.reduceBEq, reduceIte, un, t4, fa89_1, fa89_3, fa89_4, Nat.zero_add, l2, l4, l5, hz, un_not, Bool.not_false, decide_eq_false s1, s2])
            (repeat refine WC.seq ?_)
            refine WC.cond (b := false) (by (try simp only [wk, wl, wx, reduceLT, reduceEqDiff, Nat.reduceBEq, reduceIte]); (try simp); (try omega)) (WC.skip ?_)
            (try simp only [wk, wl, wx, reduceLT, reduceEqDiff, Nat.reduceBEq, reduceIte])
            ((repeat refine WC.seq ?_); refine WC.run ?_)
            (try simp only [wk, wl, wx, reduceLT, reduceEqDiff, Nat.reduceBEq, reduceIte, t62, bin_add])
            refine ⟨_, ?_, _, j + 1, rfl, F8, rfl, by omega, ?_⟩
            · omega
            (try simp only [wk, wl, wx, reduceLT, reduceEqDiff, Nat.reduceBEq, reduceIte, t1, t60, t61])
            refine ⟨trivial, trivial, trivial, ?_, ?_⟩
            · rw [wrap64 (by omega) (by omega)]; rfl
            · rw [List.take_succ_eq_append_getElem hlt, hx]; exact hr
      all_goals (try simp only [wk, wl, wx, reduceLT, reduceEqDiff, Nat.reduceBEq, reduceIte, t1, t60, t61, t62])
      all_goals (first | trivial | rfl | simp)
    · refine WC.cond (b := false) (by (try simp only [wk, wl, wx, reduceLT, reduceEqDiff, Nat.reduceBEq, reduceIte]); (try simp); (try omega)) (WC.exit ?_)
      have : i = o.syms.length := by omega
      subst this
      rw [List.drop_length, symsE] at hr
      rw [orE_z hr.symm] at hce
      (try simp only [wk, wl, wx, reduceLT, reduceEqDiff, Nat.reduceBEq, reduceIte])
      ((repeat refine WC.seq ?_); refine WC.run ?_)
      (try simp only [wk, wl, wx, reduceLT, reduceEqDiff, Nat.reduceBEq, reduceIte, t1, fa27_4, Nat.zero_add, bk.at ty24 rfl, Sl.lenB obk.rels ty24 rfl])
      (repeat refine WC.seq ?_)
      refine WC.block ?_
      refine WC.while (fun m fr hm => ∃ ts i, fr = ⟨ts, 291, [], 10, none⟩ ∧ Fix (· < hk.next) hk hm ∧ m = o.rels.length - i ∧ i ≤ o.rels.length ∧ ts.get 1 = some (.ptr h.next 0) ∧ ts.get 145 = some c.rels ∧ ts.get 146 = some (.int .i64 o.rels.length) ∧ ts.get 147 = some (.int .i64 i) ∧ relsE o (o.rels.take i) (o.rels.drop i) = relsE o [] o.rels) ?_ ⟨_, 0, rfl, Fix.refl _ _, rfl, by omega, ?_, ?_, ?_, ?_, rfl⟩
      · rintro m fr hm ⟨ts, i, rfl, fm, rfl, hi, t1, t145, t146, t147, hr⟩
        have xm := fm.next
        have bm := bk.fix fm (by omega)
        have obm := (obk.fix fm (fun x hx => hx)).up (K' := (· < hm.next)) (fun x hx => by omega)
        have Km : Kept h hm := Fk0.trans (fm.sub fun x hx => by omega)
        ((repeat refine WC.seq ?_); refine WC.run ?_)
        (try simp only [wk, wl, wx, reduceLT, reduceEqDiff, Nat.reduceBEq, reduceIte, t146, t147])
        (repeat refine WC.seq ?_)
        by_cases hlt : i < o.rels.length
        · refine WC.cond (b := true) (by (try simp only [wk, wl, wx, reduceLT, reduceEqDiff, Nat.reduceBEq, reduceIte]); (try simp); (try omega)) (WC.skip ?_)
          (try simp only [wk, wl, wx, reduceLT, reduceEqDiff, Nat.reduceBEq, reduceIte])
          obtain ⟨p, p1, p2⟩ := obm.rels.at (fun _ => rfl) ty24 rfl ty91 rfl (by decide) rfl hlt
          have p2 := p2 hm fun _ _ _ _ _ => rfl
          rw [List.drop_eq_getElem_cons hlt, relsE] at hr
          generalize hx : o.rels[i] = r at *
          (repeat refine WC.seq ?_)
          refine WC.block ?_
          ((repeat refine WC.seq ?_); refine WC.run ?_)
          (try simp only [wk, wl, wx, reduceLT, reduceEqDiff, Nat.reduceBEq, reduceIte, t145, t147, p1, p2])
          refine wop_alloc ty91 ?_
          intro h5 b5 n5 f5
          (try simp only [wk, wl, wx, reduceLT, reduceEqDiff, Nat.reduceBEq, reduceIte])
          refine sat_store b5 ty91 rfl (by decide) rfl ?_
          intro h6 b6 n6 f6
          have b6 : Has h6 hm.next [i64 r.sec, i64 r.off, i64 r.kind, .str r.sym, i64 r.add] := b6
          have Fm : Fix (· < hm.next) hm h6 := ⟨by omega, fun c hc => by rw [f6.same c (by omega), f5.same c hc]⟩
          have F6 : Fix (· < hk.next) hk h6 := fm.trans (Fm.sub fun x hx => by omega)
          have K6 : Kept h h6 := Km.trans (Fm.sub fun x hx => by have := Km.next; omega)
          have bb := bm.fix Fm (by omega)
          have ob6 := (obm.fix Fm (fun x hx => hx)).up (K' := (· < h6.next)) (fun x hx => by omega)
          have l1 : loadP (E g) h6 3 (.ptr hm.next 0) = some (.int .i64 r.sec) := b6.at ty3 rfl 0
          have l2 : loadP (E g) h6 2 (.ptr hm.next 1) = some (.int .i64 r.off) := b6.at ty2 rfl 1
          have l5 : loadP (E g) h6 2 (.ptr hm.next 4) = some (.int .i64 r.add) := b6.at ty2 rfl 4
          have lo : loadP (E g) h6 27 (.ptr h.next 0) = some (.agg (c.cells o)) := bb.agg ty27 rfl (o := 0) (by show 0 + 7 ≤ 7; decide)
          have hsl : 0 ≤ secLen o r.sec ∧ secLen o r.sec ≤ 16384 := by unfold secLen; split <;> (try split) <;> omega
          (try simp only [wk, wl, wx, reduceLT, reduceEqDiff, Nat.reduceBEq, reduceIte])
          (repeat refine WC.seq ?_)
          refine WC.mono (Q := fun e fr h' => e = .normal ∧ ∃ ts', fr = ⟨ts', 291, [], 10, none⟩ ∧ ts'.get 190 = some (.bool (decide (r.sec < 1 ∨ 2 < r.sec ∨ r.off < 0 ∨ secLen o r.sec - 4 < r.off ∨ r.add < -2147483648 ∨ 2147483648 < r.add))) ∧ ts'.get 1 = some (.ptr h.next 0) ∧ ts'.get 8 = some (.int .i64 i) ∧ ts'.get 9 = some (.ptr hm.next 0) ∧ ts'.get 145 = some c.rels ∧ ts'.get 146 = some (.int .i64 o.rels.length) ∧ ts'.get 147 = some (.int .i64 i) ∧ Kept h6 h') ?_ ?_
          · skip
            rcases Decidable.em (r.sec < 1) with r1 | r1
            · ((repeat refine WC.seq ?_); refine WC.draw (plans := pl10_25) (by kernel_rfl) ?_; simp only [pl10_25, List.mem_cons, List.not_mem_nil, or_false, forall_eq_or_imp, forall_eq])
              (try simp (maxSteps := 2000000) only [wk, wl, wx, reduceLT, reduceEqDiff, Nat.reduceBEq, reduceIte, wd, Chk, and_true, true_and, un, t1, fa91_0, fa91_1, fa91_4, Nat.zero_add, l1, l2, l5, decide_eq_true r1])
              refine ⟨_, rfl, ?_, ?_, ?_, ?_, ?_, ?_, ?_, Fix.refl _ _⟩
              all_goals (try simp only [wk, wl, wx, reduceLT, reduceEqDiff, Nat.reduceBEq, reduceIte, t1, t145, t146, t147])
              have hB : (r.sec < 1 ∨ 2 < r.sec ∨ r.off < 0 ∨ secLen o r.sec - 4 < r.off ∨ r.add < -2147483648 ∨ 2147483648 < r.add) := by omega
              rw [decide_eq_true hB]
            rcases Decidable.em ((2 : Int) < r.sec) with r2 | r2
            · ((repeat refine WC.seq ?_); refine WC.draw (plans := pl10_25) (by kernel_rfl) ?_; simp only [pl10_25, List.mem_cons, List.not_mem_nil, or_false, forall_eq_or_imp, forall_eq])
              (try simp (maxSteps := 2000000) only [wk, wl, wx, reduceLT, reduceEqDiff, Nat.reduceBEq, reduceIte, wd, Chk, and_true, true_and, un, t1, fa91_0, fa91_1, fa91_4, Nat.zero_add, l1, l2, l5, decide_eq_false r1, decide_eq_true r2])
              refine ⟨_, rfl, ?_, ?_, ?_, ?_, ?_, ?_, ?_, Fix.refl _ _⟩
              all_goals (try simp only [wk, wl, wx, reduceLT, reduceEqDiff, Nat.reduceBEq, reduceIte, t1, t145, t146, t147])
              have hB : (r.sec < 1 ∨ 2 < r.sec ∨ r.off < 0 ∨ secLen o r.sec - 4 < r.off ∨ r.add < -2147483648 ∨ 2147483648 < r.add) := by omega
              rw [decide_eq_true hB]
            rcases Decidable.em (r.off < 0) with r3 | r3
            · ((repeat refine WC.seq ?_); refine WC.draw (plans := pl10_25) (by kernel_rfl) ?_; simp only [pl10_25, List.mem_cons, List.not_mem_nil, or_false, forall_eq_or_imp, forall_eq])
              (try simp (maxSteps := 2000000) only [wk, wl, wx, reduceLT, reduceEqDiff, Nat.reduceBEq, reduceIte, wd, Chk, and_true, true_and, un, t1, fa91_0, fa91_1, fa91_4, Nat.zero_add, l1, l2, l5, decide_eq_false r1, decide_eq_false r2, decide_eq_true r3])
              refine ⟨_, rfl, ?_, ?_, ?_, ?_, ?_, ?_, ?_, Fix.refl _ _⟩
              all_goals (try simp only [wk, wl, wx, reduceLT, reduceEqDiff, Nat.reduceBEq, reduceIte, t1, t145, t146, t147])
              have hB : (r.sec < 1 ∨ 2 < r.sec ∨ r.off < 0 ∨ secLen o r.sec - 4 < r.off ∨ r.add < -2147483648 ∨ 2147483648 < r.add) := by omega
              rw [decide_eq_true hB]
            rcases Decidable.em ((16384 : Int) < r.off) with r4 | r4
            · ((repeat refine WC.seq ?_); refine WC.draw (plans := pl10_25) (by kernel_rfl) ?_; simp only [pl10_25, List.mem_cons, List.not_mem_nil, or_false, forall_eq_or_imp, forall_eq])
              (try simp (maxSteps := 2000000) only [wk, wl, wx, reduceLT, reduceEqDiff, Nat.reduceBEq, reduceIte, wd, Chk, and_true, true_and, un, t1, fa91_0, fa91_1, fa91_4, Nat.zero_add, l1, l2, l5, decide_eq_false r1, decide_eq_false r2, decide_eq_false r3, decide_eq_true r4])
              refine ⟨_, rfl, ?_, ?_, ?_, ?_, ?_, ?_, ?_, Fix.refl _ _⟩
              all_goals (try simp only [wk, wl, wx, reduceLT, reduceEqDiff, Nat.reduceBEq, reduceIte, t1, t145, t146, t147])
              have hB : (r.sec < 1 ∨ 2 < r.sec ∨ r.off < 0 ∨ secLen o r.sec - 4 < r.off ∨ r.add < -2147483648 ∨ 2147483648 < r.add) := by omega
              rw [decide_eq_true hB]
            have hw : IntKind.i64.wrap (r.off + 4) = r.off + 4 := wrap64 (by omega) (by omega)
            have hlen : ∀ h', lenB (E g) h' 22 (if r.sec = 1 then c.code else c.data) = some (.int .i64 (secLen o r.sec)) := by
              intro h'
              unfold secLen
              by_cases q : r.sec = 1
              · rw [if_pos q, if_pos q]; exact ob6.code.len
              · rw [if_neg q, if_neg q, if_pos (by omega)]; exact ob6.data.len
            ((repeat refine WC.seq ?_); refine WC.draw (plans := pl10_25) (by kernel_rfl) ?_; simp only [pl10_25, List.mem_cons, List.not_mem_nil, or_false, forall_eq_or_imp, forall_eq])
            generalize htl : ([⟨19, false, false, []⟩, ⟨20, false, true, []⟩, ⟨21, false, true, []⟩, ⟨22, false, true, []⟩, ⟨23, false, false, []⟩, ⟨24, false, true, []⟩, ⟨25, true, false, [21, 20]⟩, ⟨26, false, true, []⟩, ⟨27, false, true, []⟩, ⟨28, false, false, []⟩, ⟨29, false, false, []⟩, ⟨30, false, false, []⟩, ⟨31, false, true, []⟩, ⟨32, false, true, []⟩, ⟨33, false, false, []⟩, ⟨34, false, false, []⟩, ⟨35, false, false, []⟩, ⟨36, false, true, []⟩, ⟨37, false, true, []⟩, ⟨38, false, false, []⟩] : List Stp) = tl
            (try simp (maxSteps := 2000000) only [wk, wl, wx, reduceLT, reduceEqDiff, Nat.reduceBEq, reduceIte, wd, Chk, and_true, true_and, un, t1, fa91_0, fa91_1, fa91_4, Nat.zero_add, l1, l2, l5, decide_eq_false r1, decide_eq_false r2, decide_eq_false r3, decide_eq_false r4])
            refine WPlan_cut [(170, .bool false), (1, .ptr h.next 0), (8, .int .i64 i), (9, .ptr hm.next 0), (145, c.rels), (146, .int .i64 o.rels.length), (147, .int .i64 i)] ?_ ?_
            · simp only [List.mem_cons, List.not_mem_nil, or_false, forall_eq_or_imp, forall_eq]
              (try simp only [wk, wl, wx, reduceLT, reduceEqDiff, Nat.reduceBEq, reduceIte, t1, t145, t146, t147])
              exact ⟨by trivial, by trivial, by trivial, by trivial, by trivial, by trivial, by trivial⟩
            clear t1 t145 t146 t147
            intro ts2 hts
            simp only [List.mem_cons, List.not_mem_nil, or_false, forall_eq_or_imp, forall_eq] at hts
            obtain ⟨t170, t1, t8, t9, t145, t146, t147⟩ := hts
            subst htl
            (try simp (maxSteps := 2000000) only [wk, wl, wx, reduceLT, reduceEqDiff, Nat.reduceBEq, reduceIte, wd, Chk, and_true, true_and, un, t170, t1, t9, fa91_0, fa91_1, fa91_4, Nat.zero_add, l1, l2, l5, lo, bin_add, hw])
            refine section_ok.mono fun v h8 ⟨e8, f8⟩ => ?_
            subst e8
            have l2' : loadP (E g) h8 2 (.ptr hm.next 1) = some (.int .i64 r.off) := (b6.fix f8 (by omega)).at ty2 rfl 1
            have l5' : loadP (E g) h8 2 (.ptr hm.next 4) = some (.int .i64 r.add) := (b6.fix f8 (by omega)).at ty2 rfl 4
            rcases Decidable.em (secLen o r.sec < r.off + 4) with r5 | r5
            · (try simp (maxSteps := 2000000) only [wk, wl, wx, reduceLT, reduceEqDiff, Nat.reduceBEq, reduceIte, wd, Chk, and_true, true_and, un, t170, t1, t9, fa91_0, fa91_1, fa91_4, Nat.zero_add, l2', l5', hlen, bin_add, hw, decide_eq_true r5])
              refine ⟨_, rfl, ?_, ?_, ?_, ?_, ?_, ?_, ?_, f8⟩
              all_goals (try simp only [wk, wl, wx, reduceLT, reduceEqDiff, Nat.reduceBEq, reduceIte, t1, t8, t9, t145, t146, t147])
              have hB : (r.sec < 1 ∨ 2 < r.sec ∨ r.off < 0 ∨ secLen o r.sec - 4 < r.off ∨ r.add < -2147483648 ∨ 2147483648 < r.add) := by omega
              rw [decide_eq_true hB]
            rcases Decidable.em (r.add < -2147483648) with r6 | r6
            · (try simp (maxSteps := 2000000) only [wk, wl, wx, reduceLT, reduceEqDiff, Nat.reduceBEq, reduceIte, wd, Chk, and_true, true_and, un, t170, t1, t9, fa91_0, fa91_1, fa91_4, Nat.zero_add, l2', l5', hlen, bin_add, hw, decide_eq_false r5, decide_eq_true r6])
              refine ⟨_, rfl, ?_, ?_, ?_, ?_, ?_, ?_, ?_, f8⟩
              all_goals (try simp only [wk, wl, wx, reduceLT, reduceEqDiff, Nat.reduceBEq, reduceIte, t1, t8, t9, t145, t146, t147])
              have hB : (r.sec < 1 ∨ 2 < r.sec ∨ r.off < 0 ∨ secLen o r.sec - 4 < r.off ∨ r.add < -2147483648 ∨ 2147483648 < r.add) := by omega
              rw [decide_eq_true hB]
            rcases Decidable.em ((2147483648 : Int) < r.add) with r7 | r7
            · (try simp (maxSteps := 2000000) only [wk, wl, wx, reduceLT, reduceEqDiff, Nat.reduceBEq, reduceIte, wd, Chk, and_true, true_and, un, t170, t1, t9, fa91_0, fa91_1, fa91_4, Nat.zero_add, l2', l5', hlen, bin_add, hw, decide_eq_false r5, decide_eq_false r6, decide_eq_true r7])
              refine ⟨_, rfl, ?_, ?_, ?_, ?_, ?_, ?_, ?_, f8⟩
              all_goals (try simp only [wk, wl, wx, reduceLT, reduceEqDiff, Nat.reduceBEq, reduceIte, t1, t8, t9, t145, t146, t147])
              have hB : (r.sec < 1 ∨ 2 < r.sec ∨ r.off < 0 ∨ secLen o r.sec - 4 < r.off ∨ r.add < -2147483648 ∨ 2147483648 < r.add) := by omega
              rw [decide_eq_true hB]
            (try simp (maxSteps := 2000000) only [wk, wl, wx, reduceLT, reduceEqDiff, Nat.reduceBEq, reduceIte, wd, Chk, and_true, true_and, un, t170, t1, t9, fa91_0, fa91_1, fa91_4, Nat.zero_add, l2', l5', hlen, bin_add, hw, decide_eq_false r5, decide_eq_false r6, decide_eq_false r7])
            refine ⟨_, rfl, ?_, ?_, ?_, ?_, ?_, ?_, ?_, f8⟩
            all_goals (try simp only [wk, wl, wx, reduceLT, reduceEqDiff, Nat.reduceBEq, reduceIte, t1, t8, t9, t145, t146, t147])
            have hB : ¬ (r.sec < 1 ∨ 2 < r.sec ∨ r.off < 0 ∨ secLen o r.sec - 4 < r.off ∨ r.add < -2147483648 ∨ 2147483648 < r.add) := by omega
            rw [decide_eq_false hB]
          rintro e fr h8 ⟨rfl, ts, rfl, t190, t1, t8, t9, t145, t146, t147, f8⟩
          have b8 := b6.fix f8 (by omega)
          have bb8 := bb.fix f8 (by omega)
          have ob8 := (ob6.fix f8 (fun x hx => hx)).up (K' := (· < h8.next)) (fun x hx => by have := f8.next; omega)
          have l3 : loadP (E g) h8 3 (.ptr hm.next 2) = some (.int .i64 r.kind) := b8.at ty3 rfl 2
          have l4 : loadP (E g) h8 9 (.ptr hm.next 3) = some (.str r.sym) := b8.at ty9 rfl 3
          have lo8 : loadP (E g) h8 27 (.ptr h.next 0) = some (.agg (c.cells o)) := bb8.agg ty27 rfl (o := 0) (by show 0 + 7 ≤ 7; decide)
          have K8 : Kept h h8 := K6.trans (f8.sub fun x hx => by have := K6.next; omega)
          have F8 : Fix (· < hk.next) hk h8 := F6.trans (f8.sub fun x hx => by have := F6.next; omega)
          (try simp only [wk, wl, wx, reduceLT, reduceEqDiff, Nat.reduceBEq, reduceIte])
          (repeat refine WC.seq ?_)
          by_cases hB : (r.sec < 1 ∨ 2 < r.sec ∨ r.off < 0 ∨ secLen o r.sec - 4 < r.off ∨ r.add < -2147483648 ∨ 2147483648 < r.add)
          · rw [decide_eq_true hB] at t190
            refine WC.cond (b := true) (by (try simp only [wk, wl, wx, reduceLT, reduceEqDiff, Nat.reduceBEq, reduceIte, t190]); (try simp); (try omega)) ?_
            ((repeat refine WC.seq ?_); refine WC.run ?_)
            (try simp only [wk, wl, wx, reduceLT, reduceEqDiff, Nat.reduceBEq, reduceIte])
            refine WC.ret ?_
            (try simp only [wk, wl, wx, reduceLT, reduceEqDiff, Nat.reduceBEq, reduceIte])
            rw [relE, if_pos hB, orE_nz (by decide)] at hr
            exact ⟨by rw [hce, ← hr, orE_nz (by decide)] <;> rfl, K8⟩
          rw [decide_eq_false hB] at t190
          rw [relE, if_neg hB] at hr
          refine WC.cond (b := false) (by (try simp only [wk, wl, wx, reduceLT, reduceEqDiff, Nat.reduceBEq, reduceIte, t190]); (try simp); (try omega)) (WC.skip ?_)
          (try simp only [wk, wl, wx, reduceLT, reduceEqDiff, Nat.reduceBEq, reduceIte])
          rcases Decidable.em (r.kind < 0) with s1 | s1
          · ((repeat refine WC.seq ?_); refine WC.run ?_)
            (try simp only [wk, wl, wx, reduceLT, reduceEqDiff, Nat.reduceBEq, reduceIte, un, t9, fa91_2, Nat.zero_add, l3, decide_eq_true s1])
            (repeat refine WC.seq ?_)
            refine WC.cond (b := true) (by (try simp only [wk, wl, wx, reduceLT, reduceEqDiff, Nat.reduceBEq, reduceIte]); (try simp); (try omega)) ?_
            ((repeat refine WC.seq ?_); refine WC.run ?_)
            (try simp only [wk, wl, wx, reduceLT, reduceEqDiff, Nat.reduceBEq, reduceIte])
            refine WC.ret ?_
            (try simp only [wk, wl, wx, reduceLT, reduceEqDiff, Nat.reduceBEq, reduceIte])
            rw [if_pos (by simp [s1]), orE_nz (by decide)] at hr
            exact ⟨by rw [hce, ← hr, orE_nz (by decide)] <;> rfl, K8⟩
          rcases Decidable.em ((3 : Int) ≤ r.kind) with s2 | s2
          · ((repeat refine WC.seq ?_); refine WC.run ?_)
            (try simp only [wk, wl, wx, reduceLT, reduceEqDiff, Nat.reduceBEq, reduceIte, un, t9, fa91_2, Nat.zero_add, l3, decide_eq_false s1, decide_eq_true s2])
            (repeat refine WC.seq ?_)
            refine WC.cond (b := true) (by (try simp only [wk, wl, wx, reduceLT, reduceEqDiff, Nat.reduceBEq, reduceIte]); (try simp); (try omega)) ?_
            ((repeat refine WC.seq ?_); refine WC.run ?_)
            (try simp only [wk, wl, wx, reduceLT, reduceEqDiff, Nat.reduceBEq, reduceIte])
            refine WC.ret ?_
            (try simp only [wk, wl, wx, reduceLT, reduceEqDiff, Nat.reduceBEq, reduceIte])
            rw [if_pos (by simp [s1, s2]), orE_nz (by decide)] at hr
            exact ⟨by rw [hce, ← hr, orE_nz (by decide)] <;> rfl, K8⟩
          rw [if_neg (by simp only [s1, s2, or_self, not_false_iff])] at hr
          ((repeat refine WC.seq ?_); refine WC.run ?_)
          (try simp only [wk, wl, wx, reduceLT, reduceEqDiff, Nat.reduceBEq, reduceIte, un, t9, fa91_2, Nat.zero_add, l3, decide_eq_false s1, decide_eq_false s2])
          (repeat refine WC.seq ?_)
          refine WC.cond (b := false) (by (try simp only [wk, wl, wx, reduceLT, reduceEqDiff, Nat.reduceBEq, reduceIte]); (try simp); (try omega)) (WC.skip ?_)
          (try simp only [wk, wl, wx, reduceLT, reduceEqDiff, Nat.reduceBEq, reduceIte])
          ((repeat refine WC.seq ?_); refine WC.run ?_)
          (try simp only [wk, wl, wx, reduceLT, reduceEqDiff, Nat.reduceBEq, reduceIte, t1, t9, fa91_3, Nat.zero_add, l4, lo8])
          refine (rsymbol_ok ob8 fs).mono fun v h9 ⟨e9, f9⟩ => ?_
          subst e9
          (try simp only [wk, wl, wx, reduceLT, reduceEqDiff, Nat.reduceBEq, reduceIte])
          refine wop_alloc ty89 ?_
          intro h10 b10 n10 f10
          (try simp only [wk, wl, wx, reduceLT, reduceEqDiff, Nat.reduceBEq, reduceIte])
          refine sat_store b10 ty89 rfl (by decide) rfl ?_
          intro h11 b11 n11 f11
          (try simp only [wk, wl, wx, reduceLT, reduceEqDiff, Nat.reduceBEq, reduceIte])
          have F11 : Fix (· < h8.next) h8 h11 := ⟨by have := f9.next; omega, fun c hc => by have := f9.next; rw [f11.same c (by omega), f10.same c (by omega), f9.same c hc]⟩
          have x11 := F11.next
          have x8 := f8.next
          have b11' := b8.fix F11 (by omega)
          have bb11 := bb8.fix F11 (by omega)
          have ob11 := (ob8.fix F11 (fun x hx => hx)).up (K' := (· < h11.next)) (fun x hx => by omega)
          have K11 : Kept h h11 := K8.trans (F11.sub fun x hx => by have := K8.next; omega)
          have FF : Fix (· < hk.next) hk h11 := F8.trans (F11.sub fun x hx => by have := F8.next; omega)
          ((repeat refine WC.seq ?_); refine WC.run ?_)
          (try simp only [wk, wl, wx, reduceLT, reduceEqDiff, Nat.reduceBEq, reduceIte, un_not])
          (repeat refine WC.seq ?_)
          cases hs : hasN r.sym o.syms with
          | false =>
            refine WC.cond (b := true) (by (try simp only [wk, wl, wx, reduceLT, reduceEqDiff, Nat.reduceBEq, reduceIte, hs]); (try simp); (try omega)) ?_
            ((repeat refine WC.seq ?_); refine WC.run ?_)
            (try simp only [wk, wl, wx, reduceLT, reduceEqDiff, Nat.reduceBEq, reduceIte])
            refine WC.ret ?_
            (try simp only [wk, wl, wx, reduceLT, reduceEqDiff, Nat.reduceBEq, reduceIte])
            rw [hs, if_pos rfl, orE_nz (by decide)] at hr
            exact ⟨by rw [hce, ← hr, orE_nz (by decide)] <;> rfl, K11⟩
          | true =>
            refine WC.cond (b := false) (by (try simp only [wk, wl, wx, reduceLT, reduceEqDiff, Nat.reduceBEq, reduceIte, hs]); (try simp); (try omega)) (WC.skip ?_)
            (try simp only [wk, wl, wx, reduceLT, reduceEqDiff, Nat.reduceBEq, reduceIte])
            rw [hs, if_neg (by simp)] at hr
            obtain ⟨s', q1, q2, q3⟩ := Rcs.upto ob11.rels (fun _ => rfl) ty24 rfl ty91 rfl (n := i) (by omega)
            have hll : (o.rels.take i).length = i := by simp; omega
            ((repeat refine WC.seq ?_); refine WC.run ?_)
            (try simp only [wk, wl, wx, reduceLT, reduceEqDiff, Nat.reduceBEq, reduceIte, t1, t8, fa27_4, Nat.zero_add, bb11.at ty24 rfl, q1, Sl.lenB q2 ty24 rfl, hll])
            (repeat refine WC.seq ?_)
            refine WC.block ?_
            refine WC.while (fun m fr hj => ∃ ts j, fr = ⟨ts, 291, [], 10, none⟩ ∧ Fix (· < h11.next) h11 hj ∧ m = i - j ∧ j ≤ i ∧ ts.get 1 = some (.ptr h.next 0) ∧ ts.get 9 = some (.ptr hm.next 0) ∧ ts.get 145 = some c.rels ∧ ts.get 146 = some (.int .i64 o.rels.length) ∧ ts.get 147 = some (.int .i64 i) ∧ ts.get 211 = some s' ∧ ts.get 212 = some (.int .i64 i) ∧ ts.get 213 = some (.int .i64 j) ∧ ((o.rels.take i).take j).any (clash r) = false) ?_ ⟨_, 0, rfl, Fix.refl _ _, rfl, by omega, ?_, ?_, ?_, ?_, ?_, ?_, ?_, ?_, rfl⟩
            · rintro m fr hj ⟨ts, j, rfl, fj, rfl, hji, t1, t9, t145, t146, t147, t211, t212, t213, hno⟩
              have xj := fj.next
              have Kj : Kept h hj := K11.trans (fj.sub fun x hx => by have := K11.next; omega)
              have Fj : Fix (· < hk.next) hk hj := FF.trans (fj.sub fun x hx => by have := FF.next; omega)
              ((repeat refine WC.seq ?_); refine WC.run ?_)
              (try simp only [wk, wl, wx, reduceLT, reduceEqDiff, Nat.reduceBEq, reduceIte, t212, t213])
              (repeat refine WC.seq ?_)
              by_cases hjt : j < i
              · refine WC.cond (b := true) (by (try simp only [wk, wl, wx, reduceLT, reduceEqDiff, Nat.reduceBEq, reduceIte]); (try simp); (try omega)) (WC.skip ?_)
                (try simp only [wk, wl, wx, reduceLT, reduceEqDiff, Nat.reduceBEq, reduceIte])
                have hjl : j < (o.rels.take i).length := by omega
                obtain ⟨p, p1, p2⟩ := q2.at (fun _ => rfl) ty24 rfl ty91 rfl (by decide) rfl hjl
                have p2 := p2 hj fun b o m c e => fj.same b (by have := q3 _ ob11.inR _ _ _ _ e; omega)
                generalize hy : (o.rels.take i)[j] = y at *
                (repeat refine WC.seq ?_)
                refine WC.block ?_
                ((repeat refine WC.seq ?_); refine WC.run ?_)
                (try simp only [wk, wl, wx, reduceLT, reduceEqDiff, Nat.reduceBEq, reduceIte, t211, t213, p1, p2])
                refine wop_alloc ty91 ?_
                intro h12 b12 n12 f12
                (try simp only [wk, wl, wx, reduceLT, reduceEqDiff, Nat.reduceBEq, reduceIte])
                refine sat_store b12 ty91 rfl (by decide) rfl ?_
                intro h13 b13 n13 f13
                have b13 : Has h13 hj.next (relV y) := b13
                have Fk9 : Fix (· < hj.next) hj h13 := ⟨by omega, fun c hc => by rw [f13.same c (by omega), f12.same c hc]⟩
                have br := (b11'.fix fj (by omega)).fix Fk9 (by omega)
                have d0 : loadP (E g) h13 3 (.ptr hj.next 0) = some (.int .i64 y.sec) := b13.at ty3 rfl 0
                have d1 : loadP (E g) h13 2 (.ptr hj.next 1) = some (.int .i64 y.off) := b13.at ty2 rfl 1
                have e0 : loadP (E g) h13 3 (.ptr hm.next 0) = some (.int .i64 r.sec) := br.at ty3 rfl 0
                have e1 : loadP (E g) h13 2 (.ptr hm.next 1) = some (.int .i64 r.off) := br.at ty2 rfl 1
                (try simp only [wk, wl, wx, reduceLT, reduceEqDiff, Nat.reduceBEq, reduceIte])
                (repeat refine WC.seq ?_)
                refine WC.mono (Q := fun e fr h' => e = .normal ∧ h' = h13 ∧ ∃ ts', fr = ⟨ts', 291, [], 10, none⟩ ∧ ts'.get 237 = some (.bool (clash r y)) ∧ ts'.get 1 = some (.ptr h.next 0) ∧ ts'.get 9 = some (.ptr hm.next 0) ∧ ts'.get 145 = some c.rels ∧ ts'.get 146 = some (.int .i64 o.rels.length) ∧ ts'.get 147 = some (.int .i64 i) ∧ ts'.get 211 = some s' ∧ ts'.get 212 = some (.int .i64 i) ∧ ts'.get 213 = some (.int .i64 j)) ?_ ?_
                · skip
                  rcases (Decidable.em (y.sec = r.sec)).symm with w1 | w1
                  · ((repeat refine WC.seq ?_); refine WC.run ?_)
                    (try simp only [wk, wl, wx, reduceLT, reduceEqDiff, Nat.reduceBEq, reduceIte, un, t9, fa91_0, fa91_1, Nat.zero_add, d0, d1, e0, e1, bin_add, dec_beq, decide_eq_false w1])
                    refine ⟨trivial, trivial, _, rfl, ?_, ?_, ?_, ?_, ?_, ?_, ?_, ?_, ?_⟩
                    all_goals (try simp only [wk, wl, wx, reduceLT, reduceEqDiff, Nat.reduceBEq, reduceIte, t1, t9, t145, t146, t147, t211, t212, t213])
                    simp [clash, w1]
                  rcases (Decidable.em (y.off < IntKind.i64.wrap (r.off + 4))).symm with w2 | w2
                  · ((repeat refine WC.seq ?_); refine WC.run ?_)
                    (try simp only [wk, wl, wx, reduceLT, reduceEqDiff, Nat.reduceBEq, reduceIte, un, t9, fa91_0, fa91_1, Nat.zero_add, d0, d1, e0, e1, bin_add, dec_beq, decide_eq_true w1, decide_eq_false w2])
                    refine ⟨trivial, trivial, _, rfl, ?_, ?_, ?_, ?_, ?_, ?_, ?_, ?_, ?_⟩
                    all_goals (try simp only [wk, wl, wx, reduceLT, reduceEqDiff, Nat.reduceBEq, reduceIte, t1, t9, t145, t146, t147, t211, t212, t213])
                    simp [clash, w1, w2]
                  ((repeat refine WC.seq ?_); refine WC.run ?_)
                  (try simp only [wk, wl, wx, reduceLT, reduceEqDiff, Nat.reduceBEq, reduceIte, un, t9, fa91_0, fa91_1, Nat.zero_add, d0, d1, e0, e1, bin_add, dec_beq, decide_eq_true w1, decide_eq_true w2])
                  refine ⟨trivial, trivial, _, rfl, ?_, ?_, ?_, ?_, ?_, ?_, ?_, ?_, ?_⟩
                  all_goals (try simp only [wk, wl, wx, reduceLT, reduceEqDiff, Nat.reduceBEq, reduceIte, t1, t9, t145, t146, t147, t211, t212, t213])
                  simp [clash, w1, w2]
                rintro e fr hh ⟨rfl, rfl, ts, rfl, t237, t1, t9, t145, t146, t147, t211, t212, t213⟩
                (try simp only [wk, wl, wx, reduceLT, reduceEqDiff, Nat.reduceBEq, reduceIte])
                (repeat refine WC.seq ?_)
                cases hb : clash r y with
                | true =>
                  rw [hb] at t237
                  refine WC.cond (b := true) (by (try simp only [wk, wl, wx, reduceLT, reduceEqDiff, Nat.reduceBEq, reduceIte, t237]); (try simp); (try omega)) ?_
                  ((repeat refine WC.seq ?_); refine WC.run ?_)
                  (try simp only [wk, wl, wx, reduceLT, reduceEqDiff, Nat.reduceBEq, reduceIte])
                  refine WC.ret ?_
                  (try simp only [wk, wl, wx, reduceLT, reduceEqDiff, Nat.reduceBEq, reduceIte])
                  have ht : (o.rels.take i).any (clash r) = true := by
                    rw [List.any_eq_true]
                    exact ⟨_, List.getElem_mem hjl, by rw [hy]; exact hb⟩
                  rw [ht, if_pos rfl, orE_nz (by decide)] at hr
                  exact ⟨by rw [hce, ← hr, orE_nz (by decide)] <;> rfl, Kj.trans (Fk9.sub fun x hx => by have := Kj.next; omega)⟩
                | false =>
                  rw [hb] at t237
                  refine WC.cond (b := false) (by (try simp only [wk, wl, wx, reduceLT, reduceEqDiff, Nat.reduceBEq, reduceIte, t237]); (try simp); (try omega)) (WC.skip ?_)
                  (try simp only [wk, wl, wx, reduceLT, reduceEqDiff, Nat.reduceBEq, reduceIte])
                  ((repeat refine WC.seq ?_); refine WC.run ?_)
                  (try simp only [wk, wl, wx, reduceLT, reduceEqDiff, Nat.reduceBEq, reduceIte, t213, bin_add])
                  refine ⟨_, ?_, _, j + 1, rfl, fj.trans (Fk9.sub fun x hx => by omega), rfl, by omega, ?_⟩
                  · omega
                  (try simp only [wk, wl, wx, reduceLT, reduceEqDiff, Nat.reduceBEq, reduceIte, t1, t9, t145, t146, t147, t211, t212])
                  refine ⟨trivial, trivial, trivial, trivial, trivial, trivial, trivial, ?_, ?_⟩
                  · rw [wrap64 (by omega) (by omega)]; rfl
                  · rw [List.take_succ_eq_append_getElem hjl, List.any_append, hno, hy]
                    simp only [List.any_cons, List.any_nil, Bool.or_false, Bool.false_or, hb]
              · refine WC.cond (b := false) (by (try simp only [wk, wl, wx, reduceLT, reduceEqDiff, Nat.reduceBEq, reduceIte]); (try simp); (try omega)) (WC.exit ?_)
                have : j = i := by omega
                subst this
                have hno : (o.rels.take j).any (clash r) = false := by rwa [List.take_of_length_le (by omega)] at hno
                rw [hno, if_neg (by simp), orE_z rfl] at hr
                (try simp only [wk, wl, wx, reduceLT, reduceEqDiff, Nat.reduceBEq, reduceIte])
                rw [show Nat.beq 6 6 = true from rfl, cond_true]
                ((repeat refine WC.seq ?_); refine WC.run ?_)
                (try simp only [wk, wl, wx, reduceLT, reduceEqDiff, Nat.reduceBEq, reduceIte, t147, bin_add])
                refine ⟨_, ?_, _, j + 1, rfl, Fj, rfl, by omega, ?_⟩
                · omega
                (try simp only [wk, wl, wx, reduceLT, reduceEqDiff, Nat.reduceBEq, reduceIte, t1, t145, t146])
                refine ⟨trivial, trivial, trivial, ?_, ?_⟩
                · rw [wrap64 (by omega) (by omega)]; rfl
                · rw [List.take_succ_eq_append_getElem hlt, hx]; exact hr
            all_goals (try simp only [wk, wl, wx, reduceLT, reduceEqDiff, Nat.reduceBEq, reduceIte, t1, t9, t145, t146, t147])
            all_goals (first | trivial | rfl | simp)
        · refine WC.cond (b := false) (by (try simp only [wk, wl, wx, reduceLT, reduceEqDiff, Nat.reduceBEq, reduceIte]); (try simp); (try omega)) (WC.exit ?_)
          have : i = o.rels.length := by omega
          subst this
          rw [List.drop_length, relsE] at hr
          rw [orE_z hr.symm] at hce
          (try simp only [wk, wl, wx, reduceLT, reduceEqDiff, Nat.reduceBEq, reduceIte])
          have Km : Kept h hm := Km
          ((repeat refine WC.seq ?_); refine WC.run ?_)
          (try simp only [wk, wl, wx, reduceLT, reduceEqDiff, Nat.reduceBEq, reduceIte, t1, fa27_5, Nat.zero_add, bm.at ty25 rfl, Sl.lenB obm.needs ty25 rfl])
          (repeat refine WC.seq ?_)
          refine WC.block ?_
          refine WC.while (fun m fr hn => ∃ ts i, fr = ⟨ts, 291, [], 10, none⟩ ∧ hn = hm ∧ m = o.needs.length - i ∧ i ≤ o.needs.length ∧ ts.get 1 = some (.ptr h.next 0) ∧ ts.get 241 = some c.needs ∧ ts.get 242 = some (.int .i64 o.needs.length) ∧ ts.get 243 = some (.int .i64 i) ∧ needsE (o.needs.take i) (o.needs.drop i) = needsE [] o.needs) ?_ ⟨_, 0, rfl, rfl, rfl, by omega, ?_, ?_, ?_, ?_, rfl⟩
          · rintro m fr hn ⟨ts, i, rfl, rfl, rfl, hi, t1, t241, t242, t243, hr⟩
            ((repeat refine WC.seq ?_); refine WC.run ?_)
            (try simp only [wk, wl, wx, reduceLT, reduceEqDiff, Nat.reduceBEq, reduceIte, t242, t243])
            (repeat refine WC.seq ?_)
            by_cases hlt : i < o.needs.length
            · refine WC.cond (b := true) (by (try simp only [wk, wl, wx, reduceLT, reduceEqDiff, Nat.reduceBEq, reduceIte]); (try simp); (try omega)) (WC.skip ?_)
              (try simp only [wk, wl, wx, reduceLT, reduceEqDiff, Nat.reduceBEq, reduceIte])
              obtain ⟨p, p1, p2⟩ := obm.needs.at ty25 rfl ty9 rfl rfl hlt
              have p2 := p2 hn fun _ _ _ _ _ => rfl
              rw [List.drop_eq_getElem_cons hlt, needsE] at hr
              generalize hx : o.needs[i] = x at *
              (repeat refine WC.seq ?_)
              refine WC.block ?_
              ((repeat refine WC.seq ?_); refine WC.run ?_)
              (try simp only [wk, wl, wx, reduceLT, reduceEqDiff, Nat.reduceBEq, reduceIte, t241, t243, p1, p2])
              ((repeat refine WC.seq ?_); refine WC.run ?_)
              (try simp only [wk, wl, wx, reduceLT, reduceEqDiff, Nat.reduceBEq, reduceIte])
              refine rnamed_ok.mono fun v h7 ⟨e7, e7'⟩ => ?_
              subst e7 e7'
              (try simp only [wk, wl, wx, reduceLT, reduceEqDiff, Nat.reduceBEq, reduceIte])
              ((repeat refine WC.seq ?_); refine WC.run ?_)
              (try simp only [wk, wl, wx, reduceLT, reduceEqDiff, Nat.reduceBEq, reduceIte])
              (repeat refine WC.seq ?_)
              rcases (Decidable.em (nameE x = 0)).symm with hq | hq
              · refine WC.cond (b := true) (by (try simp only [wk, wl, wx, reduceLT, reduceEqDiff, Nat.reduceBEq, reduceIte, hq]); (try simp); (try omega)) ?_
                ((repeat refine WC.seq ?_); refine WC.run ?_)
                (try simp only [wk, wl, wx, reduceLT, reduceEqDiff, Nat.reduceBEq, reduceIte])
                refine WC.ret ?_
                (try simp only [wk, wl, wx, reduceLT, reduceEqDiff, Nat.reduceBEq, reduceIte])
                rw [orE_nz hq] at hr
                exact ⟨by rw [hce, ← hr, orE_nz hq] <;> rfl, Km⟩
              refine WC.cond (b := false) (by (try simp only [wk, wl, wx, reduceLT, reduceEqDiff, Nat.reduceBEq, reduceIte, hq]); (try simp); (try omega)) (WC.skip ?_)
              (try simp only [wk, wl, wx, reduceLT, reduceEqDiff, Nat.reduceBEq, reduceIte])
              rw [orE_z hq] at hr
              obtain ⟨s', q1, q2, q3, _⟩ := Sl.sub obm.needs ty25 rfl (sizeOf_of ty9) (lo := none) (hi := some i) (l := 0) (r := i) rfl rfl (Nat.zero_le _) (by omega)
              have hll : (o.needs.take i).length = i := by simp; omega
              have q2 : Ss g h7 s' (o.needs.take i) := by
                unfold Ss Vs
                rw [hll, List.map_take]
                simpa using q2
              have q1 : sliceV (E g) 25 c.needs none (some (.int .i64 i)) none = some s' := q1
              ((repeat refine WC.seq ?_); refine WC.run ?_)
              (try simp only [wk, wl, wx, reduceLT, reduceEqDiff, Nat.reduceBEq, reduceIte, t1, t243, fa27_5, Nat.zero_add, bm.at ty25 rfl, q1, Sl.lenB q2 ty25 rfl, hll])
              (repeat refine WC.seq ?_)
              refine WC.block ?_
              refine WC.while (fun m fr hj => ∃ ts j, fr = ⟨ts, 291, [], 10, none⟩ ∧ hj = h7 ∧ m = i - j ∧ j ≤ i ∧ ts.get 1 = some (.ptr h.next 0) ∧ ts.get 15 = some (.str x) ∧ ts.get 241 = some c.needs ∧ ts.get 242 = some (.int .i64 o.needs.length) ∧ ts.get 243 = some (.int .i64 i) ∧ ts.get 256 = some s' ∧ ts.get 257 = some (.int .i64 i) ∧ ts.get 258 = some (.int .i64 j) ∧ ((o.needs.take i).take j).contains x = false) ?_ ⟨_, 0, rfl, rfl, rfl, by omega, ?_, ?_, ?_, ?_, ?_, ?_, ?_, ?_, rfl⟩
              · rintro m fr hj ⟨ts, j, rfl, rfl, rfl, hji, t1, t15, t241, t242, t243, t256, t257, t258, hno⟩
                ((repeat refine WC.seq ?_); refine WC.run ?_)
                (try simp only [wk, wl, wx, reduceLT, reduceEqDiff, Nat.reduceBEq, reduceIte, t257, t258])
                (repeat refine WC.seq ?_)
                by_cases hjt : j < i
                · refine WC.cond (b := true) (by (try simp only [wk, wl, wx, reduceLT, reduceEqDiff, Nat.reduceBEq, reduceIte]); (try simp); (try omega)) (WC.skip ?_)
                  (try simp only [wk, wl, wx, reduceLT, reduceEqDiff, Nat.reduceBEq, reduceIte])
                  have hjl : j < (o.needs.take i).length := by omega
                  obtain ⟨p, p1, p2⟩ := q2.at ty25 rfl ty9 rfl rfl hjl
                  have p2 := p2 hj fun _ _ _ _ _ => rfl
                  generalize hy : (o.needs.take i)[j] = y at *
                  (repeat refine WC.seq ?_)
                  refine WC.block ?_
                  ((repeat refine WC.seq ?_); refine WC.run ?_)
                  (try simp only [wk, wl, wx, reduceLT, reduceEqDiff, Nat.reduceBEq, reduceIte, t256, t258, p1, p2])
                  ((repeat refine WC.seq ?_); refine WC.run ?_)
                  (try simp only [wk, wl, wx, reduceLT, reduceEqDiff, Nat.reduceBEq, reduceIte, t15, bin_seql])
                  (repeat refine WC.seq ?_)
                  cases hb : (y == x) with
                  | true =>
                    refine WC.cond (b := true) (by (try simp only [wk, wl, wx, reduceLT, reduceEqDiff, Nat.reduceBEq, reduceIte, hb]); (try simp); (try omega)) ?_
                    ((repeat refine WC.seq ?_); refine WC.run ?_)
                    (try simp only [wk, wl, wx, reduceLT, reduceEqDiff, Nat.reduceBEq, reduceIte])
                    refine WC.ret ?_
                    (try simp only [wk, wl, wx, reduceLT, reduceEqDiff, Nat.reduceBEq, reduceIte])
                    have ht : (o.needs.take i).contains x = true := by
                      rw [List.contains_iff_mem, ← eq_of_beq hb, ← hy]
                      exact List.getElem_mem hjl
                    rw [ht, if_pos rfl, orE_nz (by decide)] at hr
                    exact ⟨by rw [hce, ← hr, orE_nz (by decide)] <;> rfl, Km⟩
                  | false =>
                    refine WC.cond (b := false) (by (try simp only [wk, wl, wx, reduceLT, reduceEqDiff, Nat.reduceBEq, reduceIte, hb]); (try simp); (try omega)) (WC.skip ?_)
                    (try simp only [wk, wl, wx, reduceLT, reduceEqDiff, Nat.reduceBEq, reduceIte])
                    ((repeat refine WC.seq ?_); refine WC.run ?_)
                    (try simp only [wk, wl, wx, reduceLT, reduceEqDiff, Nat.reduceBEq, reduceIte, t258, bin_add])
                    refine ⟨_, ?_, _, j + 1, rfl, by trivial, rfl, by omega, ?_⟩
                    · omega
                    (try simp only [wk, wl, wx, reduceLT, reduceEqDiff, Nat.reduceBEq, reduceIte, t1, t15, t241, t242, t243, t256, t257])
                    refine ⟨trivial, trivial, trivial, trivial, trivial, trivial, trivial, ?_, ?_⟩
                    · rw [wrap64 (by omega) (by omega)]; rfl
                    · rw [List.take_succ_eq_append_getElem hjl, List.contains_eq_any_beq, List.any_append, ← List.contains_eq_any_beq, hno, hy]
                      have hb' : (x == y) = false := by rw [← hb]; exact BEq.comm
                      simp only [List.any_cons, List.any_nil, Bool.or_false, Bool.false_or, hb']
                · refine WC.cond (b := false) (by (try simp only [wk, wl, wx, reduceLT, reduceEqDiff, Nat.reduceBEq, reduceIte]); (try simp); (try omega)) (WC.exit ?_)
                  have : j = i := by omega
                  subst this
                  have hno : (o.needs.take j).contains x = false := by rwa [List.take_of_length_le (by omega)] at hno
                  rw [hno, if_neg (by simp), orE_z rfl] at hr
                  (try simp only [wk, wl, wx, reduceLT, reduceEqDiff, Nat.reduceBEq, reduceIte])
                  rw [show Nat.beq 10 10 = true from rfl, cond_true]
                  ((repeat refine WC.seq ?_); refine WC.run ?_)
                  (try simp only [wk, wl, wx, reduceLT, reduceEqDiff, Nat.reduceBEq, reduceIte, t243, bin_add])
                  refine ⟨_, ?_, _, j + 1, rfl, by trivial, rfl, by omega, ?_⟩
                  · omega
                  (try simp only [wk, wl, wx, reduceLT, reduceEqDiff, Nat.reduceBEq, reduceIte, t1, t241, t242])
                  refine ⟨trivial, trivial, trivial, ?_, ?_⟩
                  · rw [wrap64 (by omega) (by omega)]; rfl
                  · rw [List.take_succ_eq_append_getElem hlt, hx]; exact hr
              all_goals (try simp only [wk, wl, wx, reduceLT, reduceEqDiff, Nat.reduceBEq, reduceIte, t1, t241, t242, t243])
              all_goals (first | trivial | rfl | simp)
            · refine WC.cond (b := false) (by (try simp only [wk, wl, wx, reduceLT, reduceEqDiff, Nat.reduceBEq, reduceIte]); (try simp); (try omega)) (WC.exit ?_)
              have : i = o.needs.length := by omega
              subst this
              rw [List.drop_length, needsE] at hr
              rw [orE_z hr.symm] at hce
              (try simp only [wk, wl, wx, reduceLT, reduceEqDiff, Nat.reduceBEq, reduceIte])
              rw [hce, entE_ref]
              have lo : loadP (E g) hn 27 (.ptr h.next 0) = some (.agg (c.cells o)) := bm.agg ty27 rfl (o := 0) (by show 0 + 7 ≤ 7; decide)
              have xm' := Km.next
              ((repeat refine WC.seq ?_); refine WC.run ?_)
              (try simp only [wk, wl, wx, reduceLT, reduceEqDiff, Nat.reduceBEq, reduceIte, t1, lo, fa27_6, Nat.zero_add, bm.at ty9 rfl])
              refine (rsymbol_ok obm fs).mono fun v h7 ⟨e7, f7⟩ => ?_
              subst e7
              (try simp only [wk, wl, wx, reduceLT, reduceEqDiff, Nat.reduceBEq, reduceIte])
              refine wop_alloc ty89 ?_
              intro h8 b8 n8 f8
              (try simp only [wk, wl, wx, reduceLT, reduceEqDiff, Nat.reduceBEq, reduceIte])
              refine sat_store b8 ty89 rfl (by decide) rfl ?_
              intro h9 b9 n9 f9
              have b9 : Has h9 h7.next (symV (getS o.entry o.syms)) := b9
              generalize hgs : getS o.entry o.syms = s at *
              (try simp only [wk, wl, wx, reduceLT, reduceEqDiff, Nat.reduceBEq, reduceIte])
              have x7 := f7.next
              have F9 : Fix (· < hn.next) hn h9 := ⟨by omega, fun c hc => by rw [f9.same c (by omega), f8.same c (by omega), f7.same c hc]⟩
              have bn := bm.fix F9 (by omega)
              have K9 : Kept h h9 := Km.trans (F9.sub fun x hx => by omega)
              have lE : loadP (E g) h9 9 (.ptr h.next 6) = some (.str o.entry) := bn.at ty9 rfl 6
              have l1 : loadP (E g) h9 3 (.ptr h7.next 1) = some (.int .i64 s.sec) := b9.at ty3 rfl 1
              have l3 : loadP (E g) h9 4 (.ptr h7.next 3) = some (.bool s.glob) := b9.at ty4 rfl 3
              have hbe : (o.entry == ([] : List UInt8)) = decide (o.entry = []) := by cases o.entry <;> rfl
              by_cases he : o.entry = []
              · ((repeat refine WC.seq ?_); refine WC.run ?_)
                (try simp only [wk, wl, wx, reduceLT, reduceEqDiff, Nat.reduceBEq, reduceIte, un, t1, fa27_6, Nat.zero_add, lE, bin_sneq, hbe, decide_eq_true he, Bool.not_true])
                (repeat refine WC.seq ?_)
                refine WC.cond (b := false) (by (try simp only [wk, wl, wx, reduceLT, reduceEqDiff, Nat.reduceBEq, reduceIte]); (try simp); (try omega)) (WC.skip ?_)
                (try simp only [wk, wl, wx, reduceLT, reduceEqDiff, Nat.reduceBEq, reduceIte])
                ((repeat refine WC.seq ?_); refine WC.run ?_)
                (try simp only [wk, wl, wx, reduceLT, reduceEqDiff, Nat.reduceBEq, reduceIte])
                refine WC.ret ?_
                (try simp only [wk, wl, wx, reduceLT, reduceEqDiff, Nat.reduceBEq, reduceIte])
                exact ⟨by rw [if_neg (by simp [he])] <;> rfl, K9⟩
              rcases (Bool.eq_false_or_eq_true (hasN o.entry o.syms)).symm with y1 | y1
              · ((repeat refine WC.seq ?_); refine WC.run ?_)
                (try simp only [wk, wl, wx, reduceLT, reduceEqDiff, Nat.reduceBEq, reduceIte, un, t1, fa27_6, fa89_1, fa89_3, Nat.zero_add, lE, l1, l3, bin_sneq, un_not, hbe, hz, decide_eq_false he, Bool.not_false, Bool.not_true, y1])
                (repeat refine WC.seq ?_)
                refine WC.cond (b := true) (by (try simp only [wk, wl, wx, reduceLT, reduceEqDiff, Nat.reduceBEq, reduceIte, y1]); (try simp); (try omega)) ?_
                ((repeat refine WC.seq ?_); refine WC.run ?_)
                (try simp only [wk, wl, wx, reduceLT, reduceEqDiff, Nat.reduceBEq, reduceIte])
                refine WC.ret ?_
                (try simp only [wk, wl, wx, reduceLT, reduceEqDiff, Nat.reduceBEq, reduceIte])
                exact ⟨by rw [if_pos (by simp [he, y1])] <;> rfl, K9⟩
              rcases Decidable.em (s.sec = 0) with y2 | y2
              · ((repeat refine WC.seq ?_); refine WC.run ?_)
                (try simp only [wk, wl, wx, reduceLT, reduceEqDiff, Nat.reduceBEq, reduceIte, un, t1, fa27_6, fa89_1, fa89_3, Nat.zero_add, lE, l1, l3, bin_sneq, un_not, hbe, hz, decide_eq_false he, Bool.not_false, Bool.not_true, y1, decide_eq_true y2])
                (repeat refine WC.seq ?_)
                refine WC.cond (b := true) (by (try simp only [wk, wl, wx, reduceLT, reduceEqDiff, Nat.reduceBEq, reduceIte, y1, decide_eq_true y2]); (try simp); (try omega)) ?_
                ((repeat refine WC.seq ?_); refine WC.run ?_)
                (try simp only [wk, wl, wx, reduceLT, reduceEqDiff, Nat.reduceBEq, reduceIte])
                refine WC.ret ?_
                (try simp only [wk, wl, wx, reduceLT, reduceEqDiff, Nat.reduceBEq, reduceIte])
                exact ⟨by rw [if_pos (by simp [he, y1, y2])] <;> rfl, K9⟩
              rcases (Bool.eq_false_or_eq_true (s.glob)).symm with y3 | y3
              · ((repeat refine WC.seq ?_); refine WC.run ?_)
                (try simp only [wk, wl, wx, reduceLT, reduceEqDiff, Nat.reduceBEq, reduceIte, un, t1, fa27_6, fa89_1, fa89_3, Nat.zero_add, lE, l1, l3, bin_sneq, un_not, hbe, hz, decide_eq_false he, Bool.not_false, Bool.not_true, y1, decide_eq_false y2, y3])
                (repeat refine WC.seq ?_)
                refine WC.cond (b := true) (by (try simp only [wk, wl, wx, reduceLT, reduceEqDiff, Nat.reduceBEq, reduceIte, y1, decide_eq_false y2, y3]); (try simp); (try omega)) ?_
                ((repeat refine WC.seq ?_); refine WC.run ?_)
                (try simp only [wk, wl, wx, reduceLT, reduceEqDiff, Nat.reduceBEq, reduceIte])
                refine WC.ret ?_
                (try simp only [wk, wl, wx, reduceLT, reduceEqDiff, Nat.reduceBEq, reduceIte])
                exact ⟨by rw [if_pos (by simp [he, y1, y2, y3])] <;> rfl, K9⟩
              ((repeat refine WC.seq ?_); refine WC.run ?_)
              (try simp only [wk, wl, wx, reduceLT, reduceEqDiff, Nat.reduceBEq, reduceIte, un, t1, fa27_6, fa89_1, fa89_3, Nat.zero_add, lE, l1, l3, bin_sneq, un_not, hbe, hz, decide_eq_false he, Bool.not_false, Bool.not_true, y1, decide_eq_false y2, y3])
              (repeat refine WC.seq ?_)
              refine WC.cond (b := false) (by (try simp only [wk, wl, wx, reduceLT, reduceEqDiff, Nat.reduceBEq, reduceIte, y1, decide_eq_false y2, y3]); (try simp); (try omega)) (WC.skip ?_)
              (try simp only [wk, wl, wx, reduceLT, reduceEqDiff, Nat.reduceBEq, reduceIte])
              ((repeat refine WC.seq ?_); refine WC.run ?_)
              (try simp only [wk, wl, wx, reduceLT, reduceEqDiff, Nat.reduceBEq, reduceIte])
              refine WC.ret ?_
              (try simp only [wk, wl, wx, reduceLT, reduceEqDiff, Nat.reduceBEq, reduceIte])
              exact ⟨by rw [if_neg (by simp [he, y1, y2, y3])] <;> rfl, K9⟩
          all_goals (try simp only [wk, wl, wx, reduceLT, reduceEqDiff, Nat.reduceBEq, reduceIte, t1])
          all_goals (first | trivial | rfl | simp)
      all_goals (try simp only [wk, wl, wx, reduceLT, reduceEqDiff, Nat.reduceBEq, reduceIte, t1])
      all_goals (first | trivial | rfl | simp)
  all_goals (try simp only [wk, wl, wx, reduceLT, reduceEqDiff, Nat.reduceBEq, reduceIte])
  all_goals (first | trivial | rfl | simp)
end Go.Proofs.OP
