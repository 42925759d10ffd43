/- Walks: the reference's Encode. Printed by genq2.py. -/
import Derived.Test.YtloblhhnlaaajaaGreatDoorB13
import Derived.Test.YtloblhhnlaaajaaGreatDoorD1
import Derived.Test.YtloblhhnlaaajaaGreatDoorC21
import Derived.Test.YtloblhhnlaaajaaGreatDoorC12
set_option linter.unusedVariables false
set_option linter.unusedSimpArgs false
set_option linter.defProp false
set_option linter.unusedSimpArgs false
namespace Go.Proofs.OP
open Go Go.Ev
open Go.Proofs
open Nat (reduceLT reduceEqDiff)
variable {g : T (List V)}

theorem fill_four {a b c d z : V} (ha : a.cells = [a]) (hb : b.cells = [b]) (hc : c.cells = [c]) (hd : d.cells = [d]) : fillAll (fun k => some (k * 1, 1)) (repL [z] 4) [(0, a), (1, b), (2, c), (3, d)] = some [a, b, c, d] := by
  simp [fillAll, repL, ha, hb, hc, hd, fillL]; rfl
theorem numB_append4 (a b c : Int) (xs : List UInt8) : numB [a] ++ (numB [b] ++ (numB [c] ++ xs)) = numB [a, b, c] ++ xs := by simp [numB]
theorem numB_append3 (a b c : Int) : numB [a] ++ (numB [b] ++ numB [c]) = numB [a, b, c] := by simp [numB]
theorem numB_append5 (a b c : Int) (xs : List UInt8) : numB [a] ++ (numB [b] ++ (numB [c] ++ xs)) = numB [a, b, c] ++ xs := by simp [numB]
theorem bits_step (a b : Bool) : bitsI a b = bitsI a false + (if b then 2 else 0) := by cases a <;> cases b <;> rfl
theorem _root_.Go.Ev.Grew.keeps {E : Env} {e sz n : Nat} {h h' : H} {s s' : V} {vs : List V} (G : Grew E e sz h s h' s' n vs) {b : Nat} {cs : List V} (a : Has h b cs) (hb : b < h.next) (hs : In (· ≠ b) s) : Has h' b cs :=
  a.fix G.fix ⟨hb, fun o m cc q => hs _ _ _ _ q rfl⟩
theorem Ob.grew {h h' : H} {e sz n n0 : Nat} {s s' : V} {vs : List V} {c : Oc} {o : ObjD} (a : Ob g h (· < n0) c o) (G : Grew (E g) e sz h s h' s' n vs) (hn : n0 ≤ h.next) (hs : In (fun b => n0 ≤ b) s) : Ob g h' (· < n0) c o :=
  a.fix G.fix fun b hb => ⟨by omega, fun o m cc q => by have := hs _ _ _ _ q; omega⟩

set_option maxRecDepth 100000 in
set_option maxHeartbeats 8000000 in
theorem rencode_ok {h : H} {c : Oc} {o : ObjD} (ob : Ob g h (· < h.next) c o) (fit : Fits o) :
    WF (E g) 12 [.agg (c.cells o)] h fun v h' => Kept h h' ∧ (checkE o ≠ 0 → v = .tuple [.nils, i64 (checkE o)]) ∧ (checkE o = 0 → ∃ s, v = .tuple [s, i64 0] ∧ BufB g h' s (encB o) ∧ In (fun b => h.next ≤ b ∧ b < h'.next) s) := by
  refine WF.enter fn12 rfl ?_
  ((repeat refine WC.seq ?_); refine WC.run ?_)
  (try simp only [wk, wl, wx, reduceLT, reduceEqDiff, Nat.reduceBEq, reduceIte])
  refine wop_box (v := .agg (c.cells o)) (by (try simp only [wk, wl, wx, reduceLT, reduceEqDiff, Nat.reduceBEq, reduceIte])) ?_
  intro h1 b1 n1 f1
  (try simp only [wk, wl, wx, reduceLT, reduceEqDiff, Nat.reduceBEq, reduceIte])
  have l1 : loadP (E g) h1 27 (.ptr h.next 0) = some (.agg (c.cells o)) := b1.agg ty27 rfl (Nat.le_refl 7)
  have b1 : Has h1 h.next [.str o.name, c.code, c.data, c.syms, c.rels, c.needs, .str o.entry] := b1
  have ob1 := (ob.fix f1 (fun _ h => h)).up (K' := (· < h1.next)) (fun _ h => by omega)
  ((repeat refine WC.seq ?_); refine WC.run ?_)
  (try simp only [wk, wl, wx, reduceLT, reduceEqDiff, Nat.reduceBEq, reduceIte, l1])
  refine (rcheck_ok ob1 fit).mono fun v h3 ⟨e3, f3⟩ => ?_
  subst e3
  have x3 := f3.next
  have b3 := b1.fix f3 (by omega)
  have ob3 := (ob1.fix f3 (fun _ h => h)).up (K' := (· < h3.next)) (fun _ h => by omega)
  (try simp only [wk, wl, wx, reduceLT, reduceEqDiff, Nat.reduceBEq, reduceIte])
  ((repeat refine WC.seq ?_); refine WC.run ?_)
  (try simp only [wk, wl, wx, reduceLT, reduceEqDiff, Nat.reduceBEq, reduceIte, i64])
  (repeat refine WC.seq ?_)
  rcases (Decidable.em (checkE o = 0)).symm with hce | hce
  · refine WC.cond (b := true) (by (try simp only [wk, wl, wx, reduceLT, reduceEqDiff, Nat.reduceBEq, reduceIte, hce]); (try simp); (try omega)) ?_
    ((repeat refine WC.seq ?_); refine WC.run ?_)
    (try simp only [wk, wl, wx, reduceLT, reduceEqDiff, Nat.reduceBEq, reduceIte])
    refine WC.ret ?_
    (try simp only [wk, wl, wx, reduceLT, reduceEqDiff, Nat.reduceBEq, reduceIte])
    exact ⟨f1.trans (f3.sub fun b hb => by omega), fun _ => by trivial, fun q => absurd q hce⟩
  refine WC.cond (b := false) (by (try simp only [wk, wl, wx, reduceLT, reduceEqDiff, Nat.reduceBEq, reduceIte, hce]); (try simp); (try omega)) (WC.skip ?_)
  (try simp only [wk, wl, wx, reduceLT, reduceEqDiff, Nat.reduceBEq, reduceIte])
  have sm := small_of hce
  have s1 := sm.name
  have s2 := sm.entry
  have s3 := sm.code
  have s4 := sm.data
  have s5 := sm.syms
  have s6 := sm.rels
  have s7 := sm.needs
  ((repeat refine WC.seq ?_); refine WC.draw (plans := pl12_4) (by kernel_rfl) ?_; simp only [pl12_4, List.mem_cons, List.not_mem_nil, or_false, forall_eq_or_imp, forall_eq])
  (try simp (maxSteps := 2000000) only [wk, wl, wx, reduceLT, reduceEqDiff, Nat.reduceBEq, reduceIte, wd, Chk, and_true, true_and, fa27_0, fa27_1, fa27_2, fa27_3, fa27_4, fa27_5, fa27_6, Nat.zero_add, b3.at ty9 rfl, b3.at ty22 rfl, b3.at ty23 rfl, b3.at ty24 rfl, b3.at ty25 rfl, Sl.lenB ob3.syms ty23 rfl, Sl.lenB ob3.rels ty24 rfl, Sl.lenB ob3.needs ty25 rfl, conv_str ob3.code, conv_str ob3.data])
  refine sat_literal (n := 4) (cs := (magB 0).map u8) ty22 rfl ty5 rfl (by decide) (by decide) (by exact fill_four rfl rfl rfl rfl) rfl ?_
  intro h4 b4' n4 f4
  have b4 := b3.fix f4 (by omega)
  have ob4 := ob3.fix f4 (fun _ h => h)
  (try simp (maxSteps := 2000000) only [wk, wl, wx, reduceLT, reduceEqDiff, Nat.reduceBEq, reduceIte, wd, Chk, and_true, true_and, fa27_0, fa27_1, fa27_2, fa27_3, fa27_4, fa27_5, fa27_6, Nat.zero_add, b4.at ty9 rfl, b4.at ty22 rfl, b4.at ty23 rfl, b4.at ty24 rfl, b4.at ty25 rfl, Sl.lenB ob4.syms ty23 rfl, Sl.lenB ob4.rels ty24 rfl, Sl.lenB ob4.needs ty25 rfl, conv_str ob4.code, conv_str ob4.data])
  refine sat_mark b4' ty22 rfl ty5 rfl ?_
  intro h5 m5 n5 f5
  have b5 := b4.fix f5 (by omega)
  have ob5 := ob4.fix f5 (fun b hb => by omega)
  have B5 : BufB g h5 (.slice h3.next 0 4 (.lit 4)) (magB 0) := .lit m5 (row_cells (cs := (magB 0).map u8) (d := [.nilp]))
  have inB : In (fun b => h3.next ≤ b) (.slice h3.next 0 4 (.lit 4)) := fun b o n c e => by injection e with e; omega
  have loB : In (· < h5.next) (.slice h3.next 0 4 (.lit 4)) := fun b o n c e => by injection e with e; omega
  have G5 : GrewB g h5 (.slice h3.next 0 4 (.lit 4)) h5 (.slice h3.next 0 4 (.lit 4)) (magB 0) := Grew.refl B5 loB
  (try simp (maxSteps := 2000000) only [wk, wl, wx, reduceLT, reduceEqDiff, Nat.reduceBEq, reduceIte, wd, Chk, and_true, true_and, fa27_0, fa27_1, fa27_2, fa27_3, fa27_4, fa27_5, fa27_6, Nat.zero_add, b5.at ty9 rfl, b5.at ty22 rfl, b5.at ty23 rfl, b5.at ty24 rfl, b5.at ty25 rfl, Sl.lenB ob5.syms ty23 rfl, Sl.lenB ob5.rels ty24 rfl, Sl.lenB ob5.needs ty25 rfl, conv_str ob5.code, conv_str ob5.data])
  refine (wtxt_ok (t := o.name) G5.buf G5.low (by (try simp only [List.length_append, magB_len, txt1_len, numB_length, List.length_cons, List.length_nil]); omega) (by omega)).mono fun v6 h6 g6 => ?_
  have G6 := G5.trans g6
  have x6 := g6.fix.next
  have b6 := G6.keeps b5 (by omega) (inB.sub fun b hb => by omega)
  have ob6 := ob5.grew G6 (by omega) inB
  (try simp (maxSteps := 2000000) only [wk, wl, wx, reduceLT, reduceEqDiff, Nat.reduceBEq, reduceIte, wd, Chk, and_true, true_and, fa27_0, fa27_1, fa27_2, fa27_3, fa27_4, fa27_5, fa27_6, Nat.zero_add, b6.at ty9 rfl, b6.at ty22 rfl, b6.at ty23 rfl, b6.at ty24 rfl, b6.at ty25 rfl, Sl.lenB ob6.syms ty23 rfl, Sl.lenB ob6.rels ty24 rfl, Sl.lenB ob6.needs ty25 rfl, conv_str ob6.code, conv_str ob6.data])
  refine (wtxt_ok (t := o.code) G6.buf G6.low (by (try simp only [List.length_append, magB_len, txt1_len, numB_length, List.length_cons, List.length_nil]); omega) (by omega)).mono fun v7 h7 g7 => ?_
  have G7 := G6.trans g7
  have x7 := g7.fix.next
  have b7 := G7.keeps b5 (by omega) (inB.sub fun b hb => by omega)
  have ob7 := ob5.grew G7 (by omega) inB
  (try simp (maxSteps := 2000000) only [wk, wl, wx, reduceLT, reduceEqDiff, Nat.reduceBEq, reduceIte, wd, Chk, and_true, true_and, fa27_0, fa27_1, fa27_2, fa27_3, fa27_4, fa27_5, fa27_6, Nat.zero_add, b7.at ty9 rfl, b7.at ty22 rfl, b7.at ty23 rfl, b7.at ty24 rfl, b7.at ty25 rfl, Sl.lenB ob7.syms ty23 rfl, Sl.lenB ob7.rels ty24 rfl, Sl.lenB ob7.needs ty25 rfl, conv_str ob7.code, conv_str ob7.data])
  refine (wtxt_ok (t := o.data) G7.buf G7.low (by (try simp only [List.length_append, magB_len, txt1_len, numB_length, List.length_cons, List.length_nil]); omega) (by omega)).mono fun v8 h8 g8 => ?_
  have G8 := G7.trans g8
  have x8 := g8.fix.next
  have b8 := G8.keeps b5 (by omega) (inB.sub fun b hb => by omega)
  have ob8 := ob5.grew G8 (by omega) inB
  (try simp (maxSteps := 2000000) only [wk, wl, wx, reduceLT, reduceEqDiff, Nat.reduceBEq, reduceIte, wd, Chk, and_true, true_and, fa27_0, fa27_1, fa27_2, fa27_3, fa27_4, fa27_5, fa27_6, Nat.zero_add, b8.at ty9 rfl, b8.at ty22 rfl, b8.at ty23 rfl, b8.at ty24 rfl, b8.at ty25 rfl, Sl.lenB ob8.syms ty23 rfl, Sl.lenB ob8.rels ty24 rfl, Sl.lenB ob8.needs ty25 rfl])
  ((repeat refine WC.seq ?_); refine WC.run ?_)
  (try simp only [wk, wl, wx, reduceLT, reduceEqDiff, Nat.reduceBEq, reduceIte, fa27_0, fa27_1, fa27_2, fa27_3, fa27_4, fa27_5, fa27_6, Nat.zero_add, b8.at ty9 rfl, b8.at ty22 rfl, b8.at ty23 rfl, b8.at ty24 rfl, b8.at ty25 rfl, Sl.lenB ob8.syms ty23 rfl, Sl.lenB ob8.rels ty24 rfl, Sl.lenB ob8.needs ty25 rfl])
  refine (wnum_ok (n := (o.syms.length : Int)) G8.buf G8.low (by (try simp only [List.length_append, magB_len, txt1_len, numB_length, List.length_cons, List.length_nil]); omega)).mono fun v9 h9 g9 => ?_
  have G9 := G8.trans g9
  have x9 := g9.fix.next
  have b9 := G9.keeps b5 (by omega) (inB.sub fun b hb => by omega)
  have ob9 := ob5.grew G9 (by omega) inB
  (try simp only [wk, wl, wx, reduceLT, reduceEqDiff, Nat.reduceBEq, reduceIte, fa27_0, fa27_1, fa27_2, fa27_3, fa27_4, fa27_5, fa27_6, Nat.zero_add, b9.at ty9 rfl, b9.at ty22 rfl, b9.at ty23 rfl, b9.at ty24 rfl, b9.at ty25 rfl, Sl.lenB ob9.syms ty23 rfl, Sl.lenB ob9.rels ty24 rfl, Sl.lenB ob9.needs ty25 rfl])
  generalize hX : magB 0 ++ txtB [o.name] ++ txtB [o.code] ++ txtB [o.data] ++ numB [(o.syms.length : Int)] = X at G9
  have lX : X.length ≤ 40000 := by rw [← hX]; simp only [List.length_append, magB_len, txt1_len, numB_length, List.length_cons, List.length_nil]; omega
  ((repeat refine WC.seq ?_); refine WC.run ?_)
  (try simp only [wk, wl, wx, reduceLT, reduceEqDiff, Nat.reduceBEq, reduceIte, fa27_0, fa27_1, fa27_2, fa27_3, fa27_4, fa27_5, fa27_6, Nat.zero_add, b9.at ty9 rfl, b9.at ty22 rfl, b9.at ty23 rfl, b9.at ty24 rfl, b9.at ty25 rfl, Sl.lenB ob9.syms ty23 rfl, Sl.lenB ob9.rels ty24 rfl, Sl.lenB ob9.needs ty25 rfl])
  (repeat refine WC.seq ?_)
  refine WC.block ?_
  refine WC.while (fun m fr hh => ∃ ts i sv, fr = ⟨ts, 117, [], 12, none⟩ ∧ GrewB g h5 (.slice h3.next 0 4 (.lit 4)) hh sv (X ++ (o.syms.take i).flatMap symB) ∧ m = o.syms.length - i ∧ i ≤ o.syms.length ∧ ts.get 1 = some (.ptr h.next 0) ∧ ts.get 5 = some sv ∧ ts.get 37 = some c.syms ∧ ts.get 38 = some (.int .i64 o.syms.length) ∧ ts.get 39 = some (.int .i64 i)) ?_ ⟨_, 0, v9, rfl, by simpa using G9, rfl, by omega, ?_, ?_, ?_, ?_, ?_⟩
  · rintro m fr hh ⟨ts, i, sv, rfl, GG, rfl, hi, t1, t5, ta, tb, tc⟩
    have xh := GG.fix.next
    have bh := GG.keeps b5 (by omega) (inB.sub fun b hb => by omega)
    have obh := ob5.grew GG (by omega) inB
    ((repeat refine WC.seq ?_); refine WC.run ?_)
    (try simp only [wk, wl, wx, reduceLT, reduceEqDiff, Nat.reduceBEq, reduceIte, tb, tc])
    (repeat refine WC.seq ?_)
    by_cases hlt : i < o.syms.length
    · refine WC.cond (b := true) (by (try simp only [wk, wl, wx, reduceLT, reduceEqDiff, Nat.reduceBEq, reduceIte]); (try simp); (try omega)) (WC.skip ?_)
      (try simp only [wk, wl, wx, reduceLT, reduceEqDiff, Nat.reduceBEq, reduceIte])
      have hsl := sm.sname _ (List.getElem_mem hlt)
      have lY : ((o.syms.take i).flatMap symB).length ≤ 96 * o.syms.length := by
        refine Nat.le_trans (flatB_len (B := 96) fun x hx => ?_) (Nat.mul_le_mul_left _ (by simp; omega))
        have := sm.sname x (List.mem_of_mem_take hx)
        simp only [symB, List.length_append, txt1_len, numB_length, List.length_cons, List.length_nil]; omega
      obtain ⟨p, p1, p2⟩ := obh.syms.at (fun _ => rfl) ty23 rfl ty89 rfl (by decide) rfl hlt
      have p2 := p2 hh fun _ _ _ _ _ => rfl
      (repeat refine WC.seq ?_)
      refine WC.block ?_
      ((repeat refine WC.seq ?_); refine WC.run ?_)
      (try simp only [wk, wl, wx, reduceLT, reduceEqDiff, Nat.reduceBEq, reduceIte, ta, tc, p1, p2])
      refine wop_alloc ty89 ?_
      intro k1 d1 m1 e1
      (try simp only [wk, wl, wx, reduceLT, reduceEqDiff, Nat.reduceBEq, reduceIte])
      refine sat_store d1 ty89 rfl (by decide) rfl ?_
      intro k2 d2 m2 e2
      have E2 : Fix (· < hh.next) hh k2 := ⟨by omega, fun c hc => by rw [e2.same c (by omega), e1.same c (by omega)]⟩
      have G2 : GrewB g h5 (.slice h3.next 0 4 (.lit 4)) k2 sv (X ++ (o.syms.take i).flatMap symB) := GG.keep E2
      have nq : In (· ≠ hh.next) sv := fun b o n c q => by have := GG.low _ _ _ _ q; omega
      have d2 : Has k2 hh.next (symV o.syms[i]) := d2
      have d2 : Has k2 hh.next [.str o.syms[i].name, i64 o.syms[i].sec, i64 o.syms[i].off, .bool o.syms[i].glob, .bool o.syms[i].weak] := d2
      (try simp only [wk, wl, wx, reduceLT, reduceEqDiff, Nat.reduceBEq, reduceIte])
      ((repeat refine WC.seq ?_); refine WC.run ?_)
      (try simp only [wk, wl, wx, reduceLT, reduceEqDiff, Nat.reduceBEq, reduceIte])
      ((repeat refine WC.seq ?_); refine WC.run ?_)
      (try simp only [wk, wl, wx, reduceLT, reduceEqDiff, Nat.reduceBEq, reduceIte, fa89_3, Nat.zero_add, d2.at ty4 rfl])
      (repeat refine WC.seq ?_)
      refine WC.mono (Q := fun e fr hq => e = .normal ∧ hq = k2 ∧ ∃ ts', fr = ⟨ts', 117, [], 12, none⟩ ∧ ts'.get 1 = some (.ptr h.next 0) ∧ ts'.get 5 = some sv ∧ ts'.get 7 = some (.ptr hh.next 0) ∧ ts'.get 8 = some (i64 (bitsI o.syms[i].glob false)) ∧ ts'.get 37 = some c.syms ∧ ts'.get 38 = some (.int .i64 o.syms.length) ∧ ts'.get 39 = some (.int .i64 i)) ?_ ?_
      · cases hb : o.syms[i].glob with
        | true =>
          refine WC.cond (b := true) (by (try simp only [wk, wl, wx, reduceLT, reduceEqDiff, Nat.reduceBEq, reduceIte, hb]); (try simp); (try omega)) ?_
          (try simp only [wk, wl, wx, reduceLT, reduceEqDiff, Nat.reduceBEq, reduceIte])
          ((repeat refine WC.seq ?_); refine WC.run ?_)
          (try simp only [wk, wl, wx, reduceLT, reduceEqDiff, Nat.reduceBEq, reduceIte, bin_add])
          first | refine ⟨by trivial, by trivial, _, rfl, ?_, ?_, ?_, ?_, ?_, ?_, ?_⟩ | refine ⟨by trivial, _, rfl, ?_, ?_, ?_, ?_, ?_, ?_, ?_⟩ | refine ⟨_, rfl, ?_, ?_, ?_, ?_, ?_, ?_, ?_⟩ | refine ⟨_, by trivial, ?_, ?_, ?_, ?_, ?_, ?_, ?_⟩
          all_goals (try simp only [wk, wl, wx, reduceLT, reduceEqDiff, Nat.reduceBEq, reduceIte, t1, t5, ta, tb, tc])
          all_goals (first | trivial | rfl)
        | false =>
          refine WC.cond (b := false) (by (try simp only [wk, wl, wx, reduceLT, reduceEqDiff, Nat.reduceBEq, reduceIte, hb]); (try simp); (try omega)) ?_
          (try simp only [wk, wl, wx, reduceLT, reduceEqDiff, Nat.reduceBEq, reduceIte])
          refine WC.skip ⟨rfl, rfl, _, rfl, ?_, ?_, ?_, ?_, ?_, ?_, ?_⟩
          all_goals (try simp only [wk, wl, wx, reduceLT, reduceEqDiff, Nat.reduceBEq, reduceIte, t1, t5, ta, tb, tc])
          all_goals (first | trivial | rfl)
      rintro e fr hq ⟨rfl, rfl, ts, rfl, t1, t5, t7, t8, ta, tb, tc⟩
      (try simp only [wk, wl, wx, reduceLT, reduceEqDiff, Nat.reduceBEq, reduceIte])
      (repeat refine WC.seq ?_)
      ((repeat refine WC.seq ?_); refine WC.run ?_)
      (try simp only [wk, wl, wx, reduceLT, reduceEqDiff, Nat.reduceBEq, reduceIte, t7, fa89_4, Nat.zero_add, d2.at ty4 rfl])
      (repeat refine WC.seq ?_)
      refine WC.mono (Q := fun e fr hk => e = .normal ∧ hk = hq ∧ ∃ ts', fr = ⟨ts', 117, [], 12, none⟩ ∧ ts'.get 1 = some (.ptr h.next 0) ∧ ts'.get 5 = some sv ∧ ts'.get 7 = some (.ptr hh.next 0) ∧ ts'.get 8 = some (i64 (bitsI o.syms[i].glob o.syms[i].weak)) ∧ ts'.get 37 = some c.syms ∧ ts'.get 38 = some (.int .i64 o.syms.length) ∧ ts'.get 39 = some (.int .i64 i)) ?_ ?_
      · cases hb : o.syms[i].weak with
        | true =>
          refine WC.cond (b := true) (by (try simp only [wk, wl, wx, reduceLT, reduceEqDiff, Nat.reduceBEq, reduceIte, hb]); (try simp); (try omega)) ?_
          (try simp only [wk, wl, wx, reduceLT, reduceEqDiff, Nat.reduceBEq, reduceIte])
          ((repeat refine WC.seq ?_); refine WC.run ?_)
          (try simp only [wk, wl, wx, reduceLT, reduceEqDiff, Nat.reduceBEq, reduceIte, t8, i64, bin_add])
          first | refine ⟨by trivial, by trivial, _, rfl, ?_, ?_, ?_, ?_, ?_, ?_, ?_⟩ | refine ⟨by trivial, _, rfl, ?_, ?_, ?_, ?_, ?_, ?_, ?_⟩ | refine ⟨_, rfl, ?_, ?_, ?_, ?_, ?_, ?_, ?_⟩ | refine ⟨_, by trivial, ?_, ?_, ?_, ?_, ?_, ?_, ?_⟩
          all_goals (try simp only [wk, wl, wx, reduceLT, reduceEqDiff, Nat.reduceBEq, reduceIte, t1, t5, t7, ta, tb, tc])
          all_goals (first | trivial | rfl | (cases o.syms[i].glob <;> rfl))
        | false =>
          refine WC.cond (b := false) (by (try simp only [wk, wl, wx, reduceLT, reduceEqDiff, Nat.reduceBEq, reduceIte, hb]); (try simp); (try omega)) ?_
          (try simp only [wk, wl, wx, reduceLT, reduceEqDiff, Nat.reduceBEq, reduceIte])
          refine WC.skip ⟨rfl, rfl, _, rfl, ?_, ?_, ?_, ?_, ?_, ?_, ?_⟩
          all_goals (try simp only [wk, wl, wx, reduceLT, reduceEqDiff, Nat.reduceBEq, reduceIte, t1, t5, t7, t8, ta, tb, tc])
          all_goals (first | trivial | rfl)
      rintro e fr hq2 ⟨rfl, rfl, ts, rfl, t1, t5, t7, t8, ta, tb, tc⟩
      (try simp only [wk, wl, wx, reduceLT, reduceEqDiff, Nat.reduceBEq, reduceIte])
      ((repeat refine WC.seq ?_); refine WC.draw (plans := pl12_14) (by kernel_rfl) ?_; simp only [pl12_14, List.mem_cons, List.not_mem_nil, or_false, forall_eq_or_imp, forall_eq])
      (try simp (maxSteps := 2000000) only [wk, wl, wx, reduceLT, reduceEqDiff, Nat.reduceBEq, reduceIte, wd, Chk, and_true, true_and, t7, t8, t5, fa89_0, fa89_1, fa89_2, fa89_3, fa89_4, Nat.zero_add, d2.at ty9 rfl, d2.at ty3 rfl, d2.at ty2 rfl, d2.at ty4 rfl])
      refine (wtxt_ok (t := o.syms[i].name) G2.buf G2.low (by simp only [List.length_append, txt1_len, numB_length, List.length_cons, List.length_nil]; omega) (by omega)).mono fun w3 k3 g3 => ?_
      have J3 := g3
      have y3 := g3.fix.next
      have d3 := J3.keeps d2 (by omega) nq
      (try simp (maxSteps := 2000000) only [wk, wl, wx, reduceLT, reduceEqDiff, Nat.reduceBEq, reduceIte, wd, Chk, and_true, true_and, t7, t8, t5, fa89_0, fa89_1, fa89_2, fa89_3, fa89_4, Nat.zero_add, d3.at ty9 rfl, d3.at ty3 rfl, d3.at ty2 rfl, d3.at ty4 rfl, i64])
      refine (wnum_ok (n := o.syms[i].sec) J3.buf J3.low (by simp only [List.length_append, txt1_len, numB_length, List.length_cons, List.length_nil]; omega)).mono fun w4 k4 g4 => ?_
      have J4 := J3.trans g4
      have y4 := g4.fix.next
      have d4 := J4.keeps d2 (by omega) nq
      (try simp (maxSteps := 2000000) only [wk, wl, wx, reduceLT, reduceEqDiff, Nat.reduceBEq, reduceIte, wd, Chk, and_true, true_and, t7, t8, t5, fa89_0, fa89_1, fa89_2, fa89_3, fa89_4, Nat.zero_add, d4.at ty9 rfl, d4.at ty3 rfl, d4.at ty2 rfl, d4.at ty4 rfl, i64])
      refine (wnum_ok (n := o.syms[i].off) J4.buf J4.low (by simp only [List.length_append, txt1_len, numB_length, List.length_cons, List.length_nil]; omega)).mono fun w5 k5 g5 => ?_
      have J5 := J4.trans g5
      have y5 := g5.fix.next
      have d5 := J5.keeps d2 (by omega) nq
      (try simp (maxSteps := 2000000) only [wk, wl, wx, reduceLT, reduceEqDiff, Nat.reduceBEq, reduceIte, wd, Chk, and_true, true_and, t7, t8, t5, fa89_0, fa89_1, fa89_2, fa89_3, fa89_4, Nat.zero_add, d5.at ty9 rfl, d5.at ty3 rfl, d5.at ty2 rfl, d5.at ty4 rfl, i64])
      refine (wnum_ok (n := bitsI o.syms[i].glob o.syms[i].weak) J5.buf J5.low (by simp only [List.length_append, txt1_len, numB_length, List.length_cons, List.length_nil]; omega)).mono fun w6 k6 g6 => ?_
      have J6 := J5.trans g6
      have y6 := g6.fix.next
      have d6 := J6.keeps d2 (by omega) nq
      (try simp (maxSteps := 2000000) only [wk, wl, wx, reduceLT, reduceEqDiff, Nat.reduceBEq, reduceIte, wd, Chk, and_true, true_and])
      ((repeat refine WC.seq ?_); refine WC.run ?_)
      (try simp only [wk, wl, wx, reduceLT, reduceEqDiff, Nat.reduceBEq, reduceIte, tc, bin_add])
      refine ⟨_, ?_, _, i + 1, w6, rfl, ?_, rfl, by omega, ?_⟩
      · omega
      · have := G2.trans J6
        rw [flatB_snoc symB hlt]
        simpa only [symB, List.append_assoc, numB_append4, numB_append3] using this
      (try simp only [wk, wl, wx, reduceLT, reduceEqDiff, Nat.reduceBEq, reduceIte, t1, ta, tb])
      refine ⟨trivial, trivial, trivial, trivial, ?_⟩
      rw [wrap64 (by omega) (by omega)]; rfl
    · refine WC.cond (b := false) (by (try simp only [wk, wl, wx, reduceLT, reduceEqDiff, Nat.reduceBEq, reduceIte]); (try simp); (try omega)) (WC.exit ?_)
      have : i = o.syms.length := by omega
      subst this
      rw [List.take_length] at GG
      (try simp only [wk, wl, wx, reduceLT, reduceEqDiff, Nat.reduceBEq, reduceIte])
      generalize hY : X ++ o.syms.flatMap symB = Y at GG
      have lY : Y.length ≤ 100000 := by
        rw [← hY, List.length_append]
        have : (o.syms.flatMap symB).length ≤ 96 * o.syms.length := flatB_len fun x hx => by
          have := sm.sname x hx
          simp only [symB, List.length_append, txt1_len, numB_length, List.length_cons, List.length_nil]; omega
        omega
      have G10 := GG
      have b10 := bh
      have ob10 := obh
      ((repeat refine WC.seq ?_); refine WC.run ?_)
      (try simp only [wk, wl, wx, reduceLT, reduceEqDiff, Nat.reduceBEq, reduceIte, t1, t5, fa27_0, fa27_1, fa27_2, fa27_3, fa27_4, fa27_5, fa27_6, Nat.zero_add, b10.at ty9 rfl, b10.at ty22 rfl, b10.at ty23 rfl, b10.at ty24 rfl, b10.at ty25 rfl, Sl.lenB ob10.syms ty23 rfl, Sl.lenB ob10.rels ty24 rfl, Sl.lenB ob10.needs ty25 rfl])
      refine (wnum_ok (n := (o.rels.length : Int)) G10.buf G10.low (by (try simp only [List.length_append, magB_len, txt1_len, numB_length, List.length_cons, List.length_nil]); omega)).mono fun v11 h11 g11 => ?_
      have G11 := G10.trans g11
      have x11 := g11.fix.next
      have b11 := G11.keeps b5 (by omega) (inB.sub fun b hb => by omega)
      have ob11 := ob5.grew G11 (by omega) inB
      (try simp only [wk, wl, wx, reduceLT, reduceEqDiff, Nat.reduceBEq, reduceIte, fa27_0, fa27_1, fa27_2, fa27_3, fa27_4, fa27_5, fa27_6, Nat.zero_add, b11.at ty9 rfl, b11.at ty22 rfl, b11.at ty23 rfl, b11.at ty24 rfl, b11.at ty25 rfl, Sl.lenB ob11.syms ty23 rfl, Sl.lenB ob11.rels ty24 rfl, Sl.lenB ob11.needs ty25 rfl, t1, t5])
      generalize hZ : Y ++ numB [(o.rels.length : Int)] = Z at G11
      have lZ : Z.length ≤ 100008 := by rw [← hZ]; simp only [List.length_append, numB_length, List.length_cons, List.length_nil]; omega
      ((repeat refine WC.seq ?_); refine WC.run ?_)
      (try simp only [wk, wl, wx, reduceLT, reduceEqDiff, Nat.reduceBEq, reduceIte, t1, t5, fa27_0, fa27_1, fa27_2, fa27_3, fa27_4, fa27_5, fa27_6, Nat.zero_add, b11.at ty9 rfl, b11.at ty22 rfl, b11.at ty23 rfl, b11.at ty24 rfl, b11.at ty25 rfl, Sl.lenB ob11.syms ty23 rfl, Sl.lenB ob11.rels ty24 rfl, Sl.lenB ob11.needs ty25 rfl])
      (repeat refine WC.seq ?_)
      refine WC.block ?_
      refine WC.while (fun m fr hh => ∃ ts i sv, fr = ⟨ts, 117, [], 12, none⟩ ∧ GrewB g h5 (.slice h3.next 0 4 (.lit 4)) hh sv (Z ++ (o.rels.take i).flatMap relB) ∧ m = o.rels.length - i ∧ i ≤ o.rels.length ∧ ts.get 1 = some (.ptr h.next 0) ∧ ts.get 5 = some sv ∧ ts.get 70 = some c.rels ∧ ts.get 71 = some (.int .i64 o.rels.length) ∧ ts.get 72 = some (.int .i64 i)) ?_ ⟨_, 0, v11, rfl, by simpa using G11, rfl, by omega, ?_, ?_, ?_, ?_, ?_⟩
      · rintro m fr hh ⟨ts, i, sv, rfl, GG, rfl, hi, t1, t5, ta, tb, tc⟩
        have xh := GG.fix.next
        have bh := GG.keeps b5 (by omega) (inB.sub fun b hb => by omega)
        have obh := ob5.grew GG (by omega) inB
        ((repeat refine WC.seq ?_); refine WC.run ?_)
        (try simp only [wk, wl, wx, reduceLT, reduceEqDiff, Nat.reduceBEq, reduceIte, tb, tc])
        (repeat refine WC.seq ?_)
        by_cases hlt : i < o.rels.length
        · refine WC.cond (b := true) (by (try simp only [wk, wl, wx, reduceLT, reduceEqDiff, Nat.reduceBEq, reduceIte]); (try simp); (try omega)) (WC.skip ?_)
          (try simp only [wk, wl, wx, reduceLT, reduceEqDiff, Nat.reduceBEq, reduceIte])
          have hsl := sm.rname _ (List.getElem_mem hlt)
          have lY : ((o.rels.take i).flatMap relB).length ≤ 104 * o.rels.length := by
            refine Nat.le_trans (flatB_len (B := 104) fun x hx => ?_) (Nat.mul_le_mul_left _ (by simp; omega))
            have := sm.rname x (List.mem_of_mem_take hx)
            simp only [relB, List.length_append, txt1_len, numB_length, List.length_cons, List.length_nil]; omega
          obtain ⟨p, p1, p2⟩ := obh.rels.at (fun _ => rfl) ty24 rfl ty91 rfl (by decide) rfl hlt
          have p2 := p2 hh fun _ _ _ _ _ => rfl
          (repeat refine WC.seq ?_)
          refine WC.block ?_
          ((repeat refine WC.seq ?_); refine WC.run ?_)
          (try simp only [wk, wl, wx, reduceLT, reduceEqDiff, Nat.reduceBEq, reduceIte, ta, tc, p1, p2])
          refine wop_alloc ty91 ?_
          intro k1 d1 m1 e1
          (try simp only [wk, wl, wx, reduceLT, reduceEqDiff, Nat.reduceBEq, reduceIte])
          refine sat_store d1 ty91 rfl (by decide) rfl ?_
          intro k2 d2 m2 e2
          have E2 : Fix (· < hh.next) hh k2 := ⟨by omega, fun c hc => by rw [e2.same c (by omega), e1.same c (by omega)]⟩
          have G2 : GrewB g h5 (.slice h3.next 0 4 (.lit 4)) k2 sv (Z ++ (o.rels.take i).flatMap relB) := GG.keep E2
          have nq : In (· ≠ hh.next) sv := fun b o n c q => by have := GG.low _ _ _ _ q; omega
          have d2 : Has k2 hh.next (relV o.rels[i]) := d2
          have d2 : Has k2 hh.next [i64 o.rels[i].sec, i64 o.rels[i].off, i64 o.rels[i].kind, .str o.rels[i].sym, i64 o.rels[i].add] := d2
          (try simp only [wk, wl, wx, reduceLT, reduceEqDiff, Nat.reduceBEq, reduceIte])
          ((repeat refine WC.seq ?_); refine WC.draw (plans := pl12_20) (by kernel_rfl) ?_; simp only [pl12_20, List.mem_cons, List.not_mem_nil, or_false, forall_eq_or_imp, forall_eq])
          (try simp (maxSteps := 2000000) only [wk, wl, wx, reduceLT, reduceEqDiff, Nat.reduceBEq, reduceIte, wd, Chk, and_true, true_and, t5, fa91_0, fa91_1, fa91_2, fa91_3, fa91_4, Nat.zero_add, d2.at ty9 rfl, d2.at ty3 rfl, d2.at ty2 rfl])
          refine (wnum_ok (n := o.rels[i].sec) G2.buf G2.low (by simp only [List.length_append, txt1_len, numB_length, List.length_cons, List.length_nil]; omega)).mono fun w3 k3 g3 => ?_
          have J3 := g3
          have y3 := g3.fix.next
          have d3 := J3.keeps d2 (by omega) nq
          (try simp (maxSteps := 2000000) only [wk, wl, wx, reduceLT, reduceEqDiff, Nat.reduceBEq, reduceIte, wd, Chk, and_true, true_and, t5, fa91_0, fa91_1, fa91_2, fa91_3, fa91_4, Nat.zero_add, d3.at ty9 rfl, d3.at ty3 rfl, d3.at ty2 rfl, i64])
          refine (wnum_ok (n := o.rels[i].off) J3.buf J3.low (by simp only [List.length_append, txt1_len, numB_length, List.length_cons, List.length_nil]; omega)).mono fun w4 k4 g4 => ?_
          have J4 := J3.trans g4
          have y4 := g4.fix.next
          have d4 := J4.keeps d2 (by omega) nq
          (try simp (maxSteps := 2000000) only [wk, wl, wx, reduceLT, reduceEqDiff, Nat.reduceBEq, reduceIte, wd, Chk, and_true, true_and, t5, fa91_0, fa91_1, fa91_2, fa91_3, fa91_4, Nat.zero_add, d4.at ty9 rfl, d4.at ty3 rfl, d4.at ty2 rfl, i64])
          refine (wnum_ok (n := o.rels[i].kind) J4.buf J4.low (by simp only [List.length_append, txt1_len, numB_length, List.length_cons, List.length_nil]; omega)).mono fun w5 k5 g5 => ?_
          have J5 := J4.trans g5
          have y5 := g5.fix.next
          have d5 := J5.keeps d2 (by omega) nq
          (try simp (maxSteps := 2000000) only [wk, wl, wx, reduceLT, reduceEqDiff, Nat.reduceBEq, reduceIte, wd, Chk, and_true, true_and, t5, fa91_0, fa91_1, fa91_2, fa91_3, fa91_4, Nat.zero_add, d5.at ty9 rfl, d5.at ty3 rfl, d5.at ty2 rfl, i64])
          refine (wtxt_ok (t := o.rels[i].sym) J5.buf J5.low (by simp only [List.length_append, txt1_len, numB_length, List.length_cons, List.length_nil]; omega) (by omega)).mono fun w6 k6 g6 => ?_
          have J6 := J5.trans g6
          have y6 := g6.fix.next
          have d6 := J6.keeps d2 (by omega) nq
          (try simp (maxSteps := 2000000) only [wk, wl, wx, reduceLT, reduceEqDiff, Nat.reduceBEq, reduceIte, wd, Chk, and_true, true_and, t5, fa91_0, fa91_1, fa91_2, fa91_3, fa91_4, Nat.zero_add, d6.at ty9 rfl, d6.at ty3 rfl, d6.at ty2 rfl, i64])
          refine (wnum_ok (n := o.rels[i].add) J6.buf J6.low (by simp only [List.length_append, txt1_len, numB_length, List.length_cons, List.length_nil]; omega)).mono fun w7 k7 g7 => ?_
          have J7 := J6.trans g7
          have y7 := g7.fix.next
          have d7 := J7.keeps d2 (by omega) nq
          (try simp (maxSteps := 2000000) only [wk, wl, wx, reduceLT, reduceEqDiff, Nat.reduceBEq, reduceIte, wd, Chk, and_true, true_and])
          ((repeat refine WC.seq ?_); refine WC.run ?_)
          (try simp only [wk, wl, wx, reduceLT, reduceEqDiff, Nat.reduceBEq, reduceIte, tc, bin_add])
          refine ⟨_, ?_, _, i + 1, w7, rfl, ?_, rfl, by omega, ?_⟩
          · omega
          · have := G2.trans J7
            rw [flatB_snoc relB hlt]
            simpa only [relB, List.append_assoc, numB_append5, numB_append4, numB_append3] using this
          (try simp only [wk, wl, wx, reduceLT, reduceEqDiff, Nat.reduceBEq, reduceIte, t1, ta, tb])
          refine ⟨trivial, trivial, trivial, trivial, ?_⟩
          rw [wrap64 (by omega) (by omega)]; rfl
        · refine WC.cond (b := false) (by (try simp only [wk, wl, wx, reduceLT, reduceEqDiff, Nat.reduceBEq, reduceIte]); (try simp); (try omega)) (WC.exit ?_)
          have : i = o.rels.length := by omega
          subst this
          rw [List.take_length] at GG
          (try simp only [wk, wl, wx, reduceLT, reduceEqDiff, Nat.reduceBEq, reduceIte])
          generalize hW : Z ++ o.rels.flatMap relB = W at GG
          have lW : W.length ≤ 300000 := by
            rw [← hW, List.length_append]
            have : (o.rels.flatMap relB).length ≤ 104 * o.rels.length := flatB_len fun x hx => by
              have := sm.rname x hx
              simp only [relB, List.length_append, txt1_len, numB_length, List.length_cons, List.length_nil]; omega
            omega
          have G12 := GG
          have b12 := bh
          have ob12 := obh
          ((repeat refine WC.seq ?_); refine WC.run ?_)
          (try simp only [wk, wl, wx, reduceLT, reduceEqDiff, Nat.reduceBEq, reduceIte, t1, t5, fa27_0, fa27_1, fa27_2, fa27_3, fa27_4, fa27_5, fa27_6, Nat.zero_add, b12.at ty9 rfl, b12.at ty22 rfl, b12.at ty23 rfl, b12.at ty24 rfl, b12.at ty25 rfl, Sl.lenB ob12.syms ty23 rfl, Sl.lenB ob12.rels ty24 rfl, Sl.lenB ob12.needs ty25 rfl])
          refine (wnum_ok (n := (o.needs.length : Int)) G12.buf G12.low (by (try simp only [List.length_append, magB_len, txt1_len, numB_length, List.length_cons, List.length_nil]); omega)).mono fun v13 h13 g13 => ?_
          have G13 := G12.trans g13
          have x13 := g13.fix.next
          have b13 := G13.keeps b5 (by omega) (inB.sub fun b hb => by omega)
          have ob13 := ob5.grew G13 (by omega) inB
          (try simp only [wk, wl, wx, reduceLT, reduceEqDiff, Nat.reduceBEq, reduceIte, fa27_0, fa27_1, fa27_2, fa27_3, fa27_4, fa27_5, fa27_6, Nat.zero_add, b13.at ty9 rfl, b13.at ty22 rfl, b13.at ty23 rfl, b13.at ty24 rfl, b13.at ty25 rfl, Sl.lenB ob13.syms ty23 rfl, Sl.lenB ob13.rels ty24 rfl, Sl.lenB ob13.needs ty25 rfl, t1, t5])
          generalize hT : W ++ numB [(o.needs.length : Int)] = T at G13
          have lT : T.length ≤ 300008 := by rw [← hT]; simp only [List.length_append, numB_length, List.length_cons, List.length_nil]; omega
          ((repeat refine WC.seq ?_); refine WC.run ?_)
          (try simp only [wk, wl, wx, reduceLT, reduceEqDiff, Nat.reduceBEq, reduceIte, t1, t5, fa27_0, fa27_1, fa27_2, fa27_3, fa27_4, fa27_5, fa27_6, Nat.zero_add, b13.at ty9 rfl, b13.at ty22 rfl, b13.at ty23 rfl, b13.at ty24 rfl, b13.at ty25 rfl, Sl.lenB ob13.syms ty23 rfl, Sl.lenB ob13.rels ty24 rfl, Sl.lenB ob13.needs ty25 rfl])
          (repeat refine WC.seq ?_)
          refine WC.block ?_
          refine WC.while (fun m fr hh => ∃ ts i sv, fr = ⟨ts, 117, [], 12, none⟩ ∧ GrewB g h5 (.slice h3.next 0 4 (.lit 4)) hh sv (T ++ txtB (o.needs.take i)) ∧ m = o.needs.length - i ∧ i ≤ o.needs.length ∧ ts.get 1 = some (.ptr h.next 0) ∧ ts.get 5 = some sv ∧ ts.get 99 = some c.needs ∧ ts.get 100 = some (.int .i64 o.needs.length) ∧ ts.get 101 = some (.int .i64 i)) ?_ ⟨_, 0, v13, rfl, by simpa [txtB] using G13, rfl, by omega, ?_, ?_, ?_, ?_, ?_⟩
          · rintro m fr hh ⟨ts, i, sv, rfl, GG, rfl, hi, t1, t5, ta, tb, tc⟩
            have xh := GG.fix.next
            have bh := GG.keeps b5 (by omega) (inB.sub fun b hb => by omega)
            have obh := ob5.grew GG (by omega) inB
            ((repeat refine WC.seq ?_); refine WC.run ?_)
            (try simp only [wk, wl, wx, reduceLT, reduceEqDiff, Nat.reduceBEq, reduceIte, tb, tc])
            (repeat refine WC.seq ?_)
            have lY : (txtB (o.needs.take i)).length ≤ 72 * o.needs.length := Nat.le_trans (txtB_length (B := 64) fun p hp => sm.nname p (List.mem_of_mem_take hp)) (Nat.mul_le_mul_left _ (by simp; omega))
            by_cases hlt : i < o.needs.length
            · refine WC.cond (b := true) (by (try simp only [wk, wl, wx, reduceLT, reduceEqDiff, Nat.reduceBEq, reduceIte]); (try simp); (try omega)) (WC.skip ?_)
              (try simp only [wk, wl, wx, reduceLT, reduceEqDiff, Nat.reduceBEq, reduceIte])
              have hsl := sm.nname _ (List.getElem_mem hlt)
              obtain ⟨p, p1, p2⟩ := obh.needs.at ty25 rfl ty9 rfl rfl hlt
              have p2 := p2 hh fun _ _ _ _ _ => rfl
              (repeat refine WC.seq ?_)
              refine WC.block ?_
              ((repeat refine WC.seq ?_); refine WC.run ?_)
              (try simp only [wk, wl, wx, reduceLT, reduceEqDiff, Nat.reduceBEq, reduceIte, ta, tc, p1, p2])
              ((repeat refine WC.seq ?_); refine WC.run ?_)
              (try simp only [wk, wl, wx, reduceLT, reduceEqDiff, Nat.reduceBEq, reduceIte, t5])
              refine (wtxt_ok (t := o.needs[i]) GG.buf GG.low (by simp only [List.length_append]; omega) (by omega)).mono fun w3 k3 g3 => ?_
              (try simp only [wk, wl, wx, reduceLT, reduceEqDiff, Nat.reduceBEq, reduceIte])
              ((repeat refine WC.seq ?_); refine WC.run ?_)
              (try simp only [wk, wl, wx, reduceLT, reduceEqDiff, Nat.reduceBEq, reduceIte, tc, bin_add])
              refine ⟨_, ?_, _, i + 1, w3, rfl, ?_, rfl, by omega, ?_⟩
              · omega
              · have := GG.trans g3
                rw [txtB_snoc hlt]
                simpa only [txtB, List.flatMap_cons, List.flatMap_nil, List.append_nil, List.append_assoc] using this
              (try simp only [wk, wl, wx, reduceLT, reduceEqDiff, Nat.reduceBEq, reduceIte, t1, ta, tb])
              refine ⟨trivial, trivial, trivial, trivial, ?_⟩
              rw [wrap64 (by omega) (by omega)]; rfl
            · refine WC.cond (b := false) (by (try simp only [wk, wl, wx, reduceLT, reduceEqDiff, Nat.reduceBEq, reduceIte]); (try simp); (try omega)) (WC.exit ?_)
              have : i = o.needs.length := by omega
              subst this
              rw [List.take_length] at GG
              (try simp only [wk, wl, wx, reduceLT, reduceEqDiff, Nat.reduceBEq, reduceIte])
              rw [List.take_length] at lY
              have G14 := GG
              have b14 := bh
              have ob14 := obh
              ((repeat refine WC.seq ?_); refine WC.run ?_)
              (try simp only [wk, wl, wx, reduceLT, reduceEqDiff, Nat.reduceBEq, reduceIte, t1, t5, fa27_0, fa27_1, fa27_2, fa27_3, fa27_4, fa27_5, fa27_6, Nat.zero_add, b14.at ty9 rfl, b14.at ty22 rfl, b14.at ty23 rfl, b14.at ty24 rfl, b14.at ty25 rfl, Sl.lenB ob14.syms ty23 rfl, Sl.lenB ob14.rels ty24 rfl, Sl.lenB ob14.needs ty25 rfl])
              refine (wtxt_ok (t := o.entry) G14.buf G14.low (by simp only [List.length_append]; omega) (by omega)).mono fun v15 h15 g15 => ?_
              have G15 := G14.trans g15
              have x15 := g15.fix.next
              have b15 := G15.keeps b5 (by omega) (inB.sub fun b hb => by omega)
              have ob15 := ob5.grew G15 (by omega) inB
              (try simp only [wk, wl, wx, reduceLT, reduceEqDiff, Nat.reduceBEq, reduceIte, fa27_0, fa27_1, fa27_2, fa27_3, fa27_4, fa27_5, fa27_6, Nat.zero_add, b15.at ty9 rfl, b15.at ty22 rfl, b15.at ty23 rfl, b15.at ty24 rfl, b15.at ty25 rfl, Sl.lenB ob15.syms ty23 rfl, Sl.lenB ob15.rels ty24 rfl, Sl.lenB ob15.needs ty25 rfl, t1, t5])
              ((repeat refine WC.seq ?_); refine WC.run ?_)
              (try simp only [wk, wl, wx, reduceLT, reduceEqDiff, Nat.reduceBEq, reduceIte])
              refine (rsum_ok G15.buf.sl (by simp only [List.length_append, txt1_len]; omega)).mono fun v16 h16 ⟨e16, e16'⟩ => ?_
              subst e16 e16'
              (try simp only [wk, wl, wx, reduceLT, reduceEqDiff, Nat.reduceBEq, reduceIte])
              refine (put_ok (k := 4) (n := ((sumN (T ++ txtB o.needs ++ txtB [o.entry]) % 4294967296 : Nat) : Int)) G15.buf G15.low (by omega) (by simp only [List.length_append, txt1_len]; omega)).mono fun v17 h17 g17 => ?_
              have G17 := G15.trans g17
              have x17 := G17.fix.next
              (try simp only [wk, wl, wx, reduceLT, reduceEqDiff, Nat.reduceBEq, reduceIte])
              refine WC.ret ?_
              (try simp only [wk, wl, wx, reduceLT, reduceEqDiff, Nat.reduceBEq, reduceIte])
              refine ⟨⟨by omega, fun b hb => ?_⟩, fun q => absurd hce q, fun _ => ⟨_, rfl, ?_, fun b o n c e => ⟨?_, G17.low _ _ _ _ e⟩⟩⟩
              · rw [G17.fix.same b ⟨by omega, fun o m cc e => by injection e with e; omega⟩, f5.same b (by omega), f4.same b (by omega), f3.same b (by omega), f1.same b hb]
              · have := G17.buf
                rw [U_nat (by omega)] at this
                rw [← hT, ← hW, ← hZ, ← hY, ← hX] at this
                have e2 : txtB [o.code, o.data] = txtB [o.code] ++ txtB [o.data] := by simp [txtB]
                have e3 : encB o = sealB (magB 0 ++ txtB [o.name] ++ txtB [o.code] ++ txtB [o.data] ++ numB [(o.syms.length : Int)] ++ o.syms.flatMap symB ++ numB [(o.rels.length : Int)] ++ o.rels.flatMap relB ++ numB [(o.needs.length : Int)] ++ txtB o.needs ++ txtB [o.entry]) := by
                  unfold encB encP
                  rw [e2]
                  simp only [List.append_assoc]
                rw [e3]
                exact this
              · rcases G17.own _ _ _ _ e with q | ⟨_, _, _, q⟩
                · omega
                · injection q with q; omega
          all_goals (try simp only [wk, wl, wx, reduceLT, reduceEqDiff, Nat.reduceBEq, reduceIte, t1, t5])
          all_goals (first | trivial | rfl | simp)
      all_goals (try simp only [wk, wl, wx, reduceLT, reduceEqDiff, Nat.reduceBEq, reduceIte, t1, t5])
      all_goals (first | trivial | rfl | simp)
  all_goals (try simp only [wk, wl, wx, reduceLT, reduceEqDiff, Nat.reduceBEq, reduceIte])
  all_goals (first | trivial | rfl | simp)
end Go.Proofs.OP
