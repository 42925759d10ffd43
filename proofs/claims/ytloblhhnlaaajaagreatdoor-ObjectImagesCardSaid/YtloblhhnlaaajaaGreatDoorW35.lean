/- Walks: the reference's Write. Printed by genr7.py. -/
import Derived.Test.YtloblhhnlaaajaaGreatDoorW15
import Derived.Test.YtloblhhnlaaajaaGreatDoorW33
import Derived.Test.YtloblhhnlaaajaaGreatDoorW34
import Derived.Test.YtloblhhnlaaajaaGreatDoorW21
set_option linter.unusedVariables false
set_option linter.unusedSimpArgs false
set_option linter.defProp false
set_option linter.unusedSimpArgs false
namespace Go.Proofs.OP
open Go Go.Ev
open Go.Proofs
open Nat (reduceLT reduceEqDiff)
variable {g : T (List V)}

theorem allB_and (p q : Nat → Bool) (n : Nat) : allB (fun i => p i && q i) n = (allB p n && allB q n) := by
  rw [Bool.eq_iff_iff]
  simp only [allB, Bool.and_eq_true, List.all_eq_true]
  exact ⟨fun h => ⟨fun x hx => (h x hx).1, fun x hx => (h x hx).2⟩, fun h x hx => ⟨h.1 x hx, h.2 x hx⟩⟩
theorem rright_eq (x : ImgD) : rrightB x = rightB x := by
  have e1 : allB (rexpP x) x.exps.length = (allB (incP (x.exps.map (·.name))) x.exps.length && allB (expP x) x.exps.length) := allB_and _ _ _
  have e2 : allB (rslotP x) x.slots.length = (allB (incP (x.slots.map (·.name))) x.slots.length && allB (slotP x) x.slots.length) := allB_and _ _ _
  rw [rrightB, rightB, e1, e2, Bool.eq_iff_iff]
  simp only [rheadI, headI, incB, Bool.and_eq_true, List.length_map]
  constructor
  · rintro ⟨⟨a1, a2, a3, a4, a5, a6, a7, a8, a9, a10⟩, ⟨b1, b2⟩, ⟨c1, c2⟩, d⟩
    exact ⟨⟨a1, a2, a3, a4, a5, a6, a7, a10⟩, b2, c2, d, ⟨b1, a8⟩, c1, a9⟩
  · rintro ⟨⟨a1, a2, a3, a4, a5, a6, a7, a10⟩, b2, c2, d, ⟨b1, a8⟩, c1, a9⟩
    exact ⟨⟨a1, a2, a3, a4, a5, a6, a7, a8, a9, a10⟩, ⟨b1, b2⟩, ⟨c1, c2⟩, d⟩
theorem Im.grew {h h' : H} {e sz n n0 : Nat} {s s' : V} {vs : List V} {c : Ic} {o : ImgD} (a : Im g h (· < n0) c o) (G : Grew (E g) e sz h s h' s' n vs) (hn : n0 ≤ h.next) (hs : In (fun b => n0 ≤ b) s) : Im g h' (· < n0) c o :=
  (a.fix (K := (· < n0)) G.fix fun b hb => ⟨by omega, fun o m cc q => by have := hs _ _ _ _ q; omega⟩).up fun b hb => hb
theorem nb3 (a b c : Int) : numB [a] ++ (numB [b] ++ numB [c]) = numB [a, b, c] := by simp [numB]
theorem nb2 (a b : Int) : numB [a] ++ numB [b] = numB [a, b] := by simp [numB]

set_option maxRecDepth 100000 in
set_option maxHeartbeats 8000000 in
theorem rwrite_ok {h : H} {c : Ic} {x : ImgD} (im : Im g h (· < h.next) c x) (fit : FitsI x) :
    WF (E g) 19 [.agg (c.cells x)] h fun v h' => Kept h h' ∧ (rightB x = false → v = .tuple [.nils, i64 14]) ∧ (rightB x = true → ∃ s, v = .tuple [s, i64 0] ∧ BufB g h' s (imgB x) ∧ In (fun b => h.next ≤ b ∧ b < h'.next) s) := by
  refine WF.enter fn19 rfl ?_
  ((repeat refine WC.seq ?_); refine WC.run ?_)
  (try simp only [wk, wl, wx, reduceLT, reduceEqDiff, Nat.reduceBEq, reduceIte])
  refine wop_box (v := .agg (c.cells x)) (by (try simp only [wk, wl, wx, reduceLT, reduceEqDiff, Nat.reduceBEq, reduceIte])) ?_
  intro h1 b1 n1 f1
  (try simp only [wk, wl, wx, reduceLT, reduceEqDiff, Nat.reduceBEq, reduceIte])
  have l1 : loadP (E g) h1 50 (.ptr h.next 0) = some (.agg (c.cells x)) := b1.agg ty50 rfl (Nat.le_refl 7)
  have b1 : Has h1 h.next [i64 x.base, c.bytes, i64 x.code, i64 x.entry, c.exps, c.slots, c.needs] := b1
  have ob1 := (im.fix f1 (fun _ h => h)).up (K' := (· < h1.next)) (fun _ h => by omega)
  ((repeat refine WC.seq ?_); refine WC.run ?_)
  (try simp only [wk, wl, wx, reduceLT, reduceEqDiff, Nat.reduceBEq, reduceIte, l1])
  refine (rright_ok ob1 fit).mono fun v h3 ⟨e3, f3⟩ => ?_
  rw [rright_eq] at e3
  subst e3
  have x3 := f3.next
  have b3 := b1.fix f3 (by omega)
  have ob3 := (ob1.fix f3 (fun _ h => h)).up (K' := (· < h3.next)) (fun _ h => by omega)
  (try simp only [wk, wl, wx, reduceLT, reduceEqDiff, Nat.reduceBEq, reduceIte, un_not])
  (repeat refine WC.seq ?_)
  cases hce : rightB x with
  | false =>
    refine WC.cond (b := true) (by (try simp only [wk, wl, wx, reduceLT, reduceEqDiff, Nat.reduceBEq, reduceIte, hce]); (try simp); (try omega)) ?_
    ((repeat refine WC.seq ?_); refine WC.run ?_)
    (try simp only [wk, wl, wx, reduceLT, reduceEqDiff, Nat.reduceBEq, reduceIte])
    refine WC.ret ?_
    (try simp only [wk, wl, wx, reduceLT, reduceEqDiff, Nat.reduceBEq, reduceIte])
    exact ⟨f1.trans (f3.sub fun b hb => by omega), fun _ => by trivial, fun q => by cases q⟩
  | true =>
  refine WC.cond (b := false) (by (try simp only [wk, wl, wx, reduceLT, reduceEqDiff, Nat.reduceBEq, reduceIte, hce]); (try simp); (try omega)) (WC.skip ?_)
  (try simp only [wk, wl, wx, reduceLT, reduceEqDiff, Nat.reduceBEq, reduceIte])
  have sm := smallI_of hce
  obtain ⟨-, -, -, s4, -, -, -, s7⟩ := sm.head
  have s5 := sm.exps
  have s6 := sm.slots
  ((repeat refine WC.seq ?_); refine WC.draw (plans := pl19_3) (by kernel_rfl) ?_; simp only [pl19_3, List.mem_cons, List.not_mem_nil, or_false, forall_eq_or_imp, forall_eq])
  (try simp (maxSteps := 2000000) only [wk, wl, wx, reduceLT, reduceEqDiff, Nat.reduceBEq, reduceIte, wd, Chk, and_true, true_and, fa50_0, fa50_1, fa50_2, fa50_3, fa50_4, fa50_5, fa50_6, Nat.zero_add, b3.at ty2 rfl, b3.at ty22 rfl, b3.at ty47 rfl, b3.at ty48 rfl, b3.at ty25 rfl, Sl.lenB ob3.exps ty47 rfl, Sl.lenB ob3.slots ty48 rfl, Sl.lenB ob3.needs ty25 rfl, conv_str ob3.bytes])
  refine sat_literal (n := 4) (cs := (magB 1).map u8) ty22 rfl ty5 rfl (by decide) (by decide) (by exact fill_four rfl rfl rfl rfl) rfl ?_
  intro h4 b4' n4 f4
  have b4 := b3.fix f4 (by omega)
  have ob4 := ob3.fix f4 (fun _ h => h)
  (try simp (maxSteps := 2000000) only [wk, wl, wx, reduceLT, reduceEqDiff, Nat.reduceBEq, reduceIte, wd, Chk, and_true, true_and, fa50_0, fa50_1, fa50_2, fa50_3, fa50_4, fa50_5, fa50_6, Nat.zero_add, b4.at ty2 rfl, b4.at ty22 rfl, b4.at ty47 rfl, b4.at ty48 rfl, b4.at ty25 rfl, Sl.lenB ob4.exps ty47 rfl, Sl.lenB ob4.slots ty48 rfl, Sl.lenB ob4.needs ty25 rfl, conv_str ob4.bytes])
  refine sat_mark b4' ty22 rfl ty5 rfl ?_
  intro h5 m5 n5 f5
  have b5 := b4.fix f5 (by omega)
  have ob5 := ob4.fix f5 (fun b hb => by omega)
  have B5 : BufB g h5 (.slice h3.next 0 4 (.lit 4)) (magB 1) := .lit m5 (row_cells (cs := (magB 1).map u8) (d := [.nilp]))
  have inB : In (fun b => h3.next ≤ b) (.slice h3.next 0 4 (.lit 4)) := fun b o n c e => by injection e with e; omega
  have loB : In (· < h5.next) (.slice h3.next 0 4 (.lit 4)) := fun b o n c e => by injection e with e; omega
  have G5 : GrewB g h5 (.slice h3.next 0 4 (.lit 4)) h5 (.slice h3.next 0 4 (.lit 4)) (magB 1) := Grew.refl B5 loB
  (try simp (maxSteps := 2000000) only [wk, wl, wx, reduceLT, reduceEqDiff, Nat.reduceBEq, reduceIte, wd, Chk, and_true, true_and, fa50_0, fa50_1, fa50_2, fa50_3, fa50_4, fa50_5, fa50_6, Nat.zero_add, b5.at ty2 rfl, b5.at ty22 rfl, b5.at ty47 rfl, b5.at ty48 rfl, b5.at ty25 rfl, Sl.lenB ob5.exps ty47 rfl, Sl.lenB ob5.slots ty48 rfl, Sl.lenB ob5.needs ty25 rfl, conv_str ob5.bytes])
  refine (wnum_ok (n := x.base) G5.buf G5.low (by (try simp only [List.length_append, magB_len, txt1_len, numB_length, List.length_cons, List.length_nil]); omega)).mono fun v6 h6 g6 => ?_
  have G6 := G5.trans g6
  have x6 := g6.fix.next
  have b6 := G6.keeps b5 (by omega) (inB.sub fun b hb => by omega)
  have ob6 := ob5.grew G6 (by omega) inB
  (try simp (maxSteps := 2000000) only [wk, wl, wx, reduceLT, reduceEqDiff, Nat.reduceBEq, reduceIte, wd, Chk, and_true, true_and, fa50_0, fa50_1, fa50_2, fa50_3, fa50_4, fa50_5, fa50_6, Nat.zero_add, b6.at ty2 rfl, b6.at ty22 rfl, b6.at ty47 rfl, b6.at ty48 rfl, b6.at ty25 rfl, Sl.lenB ob6.exps ty47 rfl, Sl.lenB ob6.slots ty48 rfl, Sl.lenB ob6.needs ty25 rfl, conv_str ob6.bytes])
  refine (wtxt_ok (t := x.bytes) G6.buf G6.low (by (try simp only [List.length_append, magB_len, txt1_len, numB_length, List.length_cons, List.length_nil]); omega) (by omega)).mono fun v7 h7 g7 => ?_
  have G7 := G6.trans g7
  have x7 := g7.fix.next
  have b7 := G7.keeps b5 (by omega) (inB.sub fun b hb => by omega)
  have ob7 := ob5.grew G7 (by omega) inB
  (try simp (maxSteps := 2000000) only [wk, wl, wx, reduceLT, reduceEqDiff, Nat.reduceBEq, reduceIte, wd, Chk, and_true, true_and, fa50_0, fa50_1, fa50_2, fa50_3, fa50_4, fa50_5, fa50_6, Nat.zero_add, b7.at ty2 rfl, b7.at ty22 rfl, b7.at ty47 rfl, b7.at ty48 rfl, b7.at ty25 rfl, Sl.lenB ob7.exps ty47 rfl, Sl.lenB ob7.slots ty48 rfl, Sl.lenB ob7.needs ty25 rfl, conv_str ob7.bytes])
  refine (wnum_ok (n := x.code) G7.buf G7.low (by (try simp only [List.length_append, magB_len, txt1_len, numB_length, List.length_cons, List.length_nil]); omega)).mono fun v8 h8 g8 => ?_
  have G8 := G7.trans g8
  have x8 := g8.fix.next
  have b8 := G8.keeps b5 (by omega) (inB.sub fun b hb => by omega)
  have ob8 := ob5.grew G8 (by omega) inB
  (try simp (maxSteps := 2000000) only [wk, wl, wx, reduceLT, reduceEqDiff, Nat.reduceBEq, reduceIte, wd, Chk, and_true, true_and, fa50_0, fa50_1, fa50_2, fa50_3, fa50_4, fa50_5, fa50_6, Nat.zero_add, b8.at ty2 rfl, b8.at ty22 rfl, b8.at ty47 rfl, b8.at ty48 rfl, b8.at ty25 rfl, Sl.lenB ob8.exps ty47 rfl, Sl.lenB ob8.slots ty48 rfl, Sl.lenB ob8.needs ty25 rfl, conv_str ob8.bytes])
  refine (wnum_ok (n := x.entry) G8.buf G8.low (by (try simp only [List.length_append, magB_len, txt1_len, numB_length, List.length_cons, List.length_nil]); omega)).mono fun v9 h9 g9 => ?_
  have G9 := G8.trans g9
  have x9 := g9.fix.next
  have b9 := G9.keeps b5 (by omega) (inB.sub fun b hb => by omega)
  have ob9 := ob5.grew G9 (by omega) inB
  (try simp (maxSteps := 2000000) only [wk, wl, wx, reduceLT, reduceEqDiff, Nat.reduceBEq, reduceIte, wd, Chk, and_true, true_and, fa50_0, fa50_1, fa50_2, fa50_3, fa50_4, fa50_5, fa50_6, Nat.zero_add, b9.at ty2 rfl, b9.at ty22 rfl, b9.at ty47 rfl, b9.at ty48 rfl, b9.at ty25 rfl, Sl.lenB ob9.exps ty47 rfl, Sl.lenB ob9.slots ty48 rfl, Sl.lenB ob9.needs ty25 rfl, conv_str ob9.bytes])
  ((repeat refine WC.seq ?_); refine WC.run ?_)
  (try simp only [wk, wl, wx, reduceLT, reduceEqDiff, Nat.reduceBEq, reduceIte, fa50_0, fa50_1, fa50_2, fa50_3, fa50_4, fa50_5, fa50_6, Nat.zero_add, b9.at ty2 rfl, b9.at ty22 rfl, b9.at ty47 rfl, b9.at ty48 rfl, b9.at ty25 rfl, Sl.lenB ob9.exps ty47 rfl, Sl.lenB ob9.slots ty48 rfl, Sl.lenB ob9.needs ty25 rfl])
  refine (wnum_ok (n := (x.exps.length : Int)) G9.buf G9.low (by (try simp only [List.length_append, magB_len, txt1_len, numB_length, List.length_cons, List.length_nil]); omega)).mono fun v10 h10 g10 => ?_
  have G10 := G9.trans g10
  have x10 := g10.fix.next
  have b10 := G10.keeps b5 (by omega) (inB.sub fun b hb => by omega)
  have ob10 := ob5.grew G10 (by omega) inB
  (try simp only [wk, wl, wx, reduceLT, reduceEqDiff, Nat.reduceBEq, reduceIte, fa50_0, fa50_1, fa50_2, fa50_3, fa50_4, fa50_5, fa50_6, Nat.zero_add, b10.at ty2 rfl, b10.at ty22 rfl, b10.at ty47 rfl, b10.at ty48 rfl, b10.at ty25 rfl, Sl.lenB ob10.exps ty47 rfl, Sl.lenB ob10.slots ty48 rfl, Sl.lenB ob10.needs ty25 rfl])
  generalize hX : magB 1 ++ numB [x.base] ++ txtB [x.bytes] ++ numB [x.code] ++ numB [x.entry] ++ numB [(x.exps.length : Int)] = X at G10
  have lX : X.length ≤ 140000 := by rw [← hX]; simp only [List.length_append, magB_len, txt1_len, numB_length, List.length_cons, List.length_nil]; omega
  ((repeat refine WC.seq ?_); refine WC.run ?_)
  (try simp only [wk, wl, wx, reduceLT, reduceEqDiff, Nat.reduceBEq, reduceIte, fa50_0, fa50_1, fa50_2, fa50_3, fa50_4, fa50_5, fa50_6, Nat.zero_add, b10.at ty2 rfl, b10.at ty22 rfl, b10.at ty47 rfl, b10.at ty48 rfl, b10.at ty25 rfl, Sl.lenB ob10.exps ty47 rfl, Sl.lenB ob10.slots ty48 rfl, Sl.lenB ob10.needs ty25 rfl])
  (repeat refine WC.seq ?_)
  refine WC.block ?_
  refine WC.while (fun m fr hh => ∃ ts i sv, fr = ⟨ts, 92, [], 19, none⟩ ∧ GrewB g h5 (.slice h3.next 0 4 (.lit 4)) hh sv (X ++ (x.exps.take i).flatMap expB) ∧ m = x.exps.length - i ∧ i ≤ x.exps.length ∧ ts.get 1 = some (.ptr h.next 0) ∧ ts.get 4 = some sv ∧ ts.get 35 = some c.exps ∧ ts.get 36 = some (.int .i64 x.exps.length) ∧ ts.get 37 = some (.int .i64 i)) ?_ ⟨_, 0, v10, rfl, by simpa using G10, rfl, by omega, ?_, ?_, ?_, ?_, ?_⟩
  · rintro m fr hh ⟨ts, i, sv, rfl, GG, rfl, hi, t1, t4, ta, tb, tc⟩
    have xh := GG.fix.next
    have bh := GG.keeps b5 (by omega) (inB.sub fun b hb => by omega)
    have obh := ob5.grew GG (by omega) inB
    ((repeat refine WC.seq ?_); refine WC.run ?_)
    (try simp only [wk, wl, wx, reduceLT, reduceEqDiff, Nat.reduceBEq, reduceIte, tb, tc])
    (repeat refine WC.seq ?_)
    by_cases hlt : i < x.exps.length
    · refine WC.cond (b := true) (by (try simp only [wk, wl, wx, reduceLT, reduceEqDiff, Nat.reduceBEq, reduceIte]); (try simp); (try omega)) (WC.skip ?_)
      (try simp only [wk, wl, wx, reduceLT, reduceEqDiff, Nat.reduceBEq, reduceIte])
      have hsl := sm.ename _ (List.getElem_mem hlt)
      have lY : ((x.exps.take i).flatMap expB).length ≤ 80 * x.exps.length := by
        refine Nat.le_trans (flatB_len (B := 80) fun y hy => ?_) (Nat.mul_le_mul_left _ (by simp; omega))
        have := sm.ename y (List.mem_of_mem_take hy)
        simp only [expB, List.length_append, txt1_len, numB_length, List.length_cons, List.length_nil]; omega
      obtain ⟨p, p1, p2⟩ := obh.exps.at (fun _ => rfl) ty47 rfl ty134 rfl (by decide) rfl hlt
      have p2 := p2 hh fun _ _ _ _ _ => rfl
      (repeat refine WC.seq ?_)
      refine WC.block ?_
      ((repeat refine WC.seq ?_); refine WC.run ?_)
      (try simp only [wk, wl, wx, reduceLT, reduceEqDiff, Nat.reduceBEq, reduceIte, ta, tc, p1, p2])
      refine wop_alloc ty134 ?_
      intro k1 d1 m1 e1
      (try simp only [wk, wl, wx, reduceLT, reduceEqDiff, Nat.reduceBEq, reduceIte])
      refine sat_store d1 ty134 rfl (by decide) rfl ?_
      intro k2 d2 m2 e2
      have E2 : Fix (· < hh.next) hh k2 := ⟨by omega, fun c hc => by rw [e2.same c (by omega), e1.same c (by omega)]⟩
      have G2 : GrewB g h5 (.slice h3.next 0 4 (.lit 4)) k2 sv (X ++ (x.exps.take i).flatMap expB) := GG.keep E2
      have nq : In (· ≠ hh.next) sv := fun b o n c q => by have := GG.low _ _ _ _ q; omega
      have d2 : Has k2 hh.next [.str x.exps[i].name, i64 x.exps[i].addr] := d2
      (try simp only [wk, wl, wx, reduceLT, reduceEqDiff, Nat.reduceBEq, reduceIte])
      ((repeat refine WC.seq ?_); refine WC.draw (plans := pl19_8) (by kernel_rfl) ?_; simp only [pl19_8, List.mem_cons, List.not_mem_nil, or_false, forall_eq_or_imp, forall_eq])
      (try simp (maxSteps := 2000000) only [wk, wl, wx, reduceLT, reduceEqDiff, Nat.reduceBEq, reduceIte, wd, Chk, and_true, true_and, t4, fa134_0, fa134_1, Nat.zero_add, d2.at ty9 rfl, d2.at ty2 rfl, i64])
      refine (wtxt_ok (t := x.exps[i].name) G2.buf G2.low (by simp only [List.length_append, txt1_len, numB_length, List.length_cons, List.length_nil]; omega) (by omega)).mono fun w3 k3 g3 => ?_
      have J3 := g3
      have y3 := g3.fix.next
      have d3 := J3.keeps d2 (by omega) nq
      (try simp (maxSteps := 2000000) only [wk, wl, wx, reduceLT, reduceEqDiff, Nat.reduceBEq, reduceIte, wd, Chk, and_true, true_and, t4, fa134_0, fa134_1, Nat.zero_add, d3.at ty9 rfl, d3.at ty2 rfl, i64])
      refine (wnum_ok (n := x.exps[i].addr) J3.buf J3.low (by simp only [List.length_append, txt1_len, numB_length, List.length_cons, List.length_nil]; omega)).mono fun w4 k4 g4 => ?_
      have J4 := J3.trans g4
      have y4 := g4.fix.next
      have d4 := J4.keeps d2 (by omega) nq
      (try simp (maxSteps := 2000000) only [wk, wl, wx, reduceLT, reduceEqDiff, Nat.reduceBEq, reduceIte, wd, Chk, and_true, true_and, t4, fa134_0, fa134_1, Nat.zero_add, d4.at ty9 rfl, d4.at ty2 rfl, i64])
      ((repeat refine WC.seq ?_); refine WC.run ?_)
      (try simp only [wk, wl, wx, reduceLT, reduceEqDiff, Nat.reduceBEq, reduceIte, tc, bin_add])
      refine ⟨_, ?_, _, i + 1, w4, rfl, ?_, rfl, by omega, ?_⟩
      · omega
      · have := G2.trans J4
        rw [flatB_snoc expB hlt]
        simpa only [expB, List.append_assoc, nb2] using this
      (try simp only [wk, wl, wx, reduceLT, reduceEqDiff, Nat.reduceBEq, reduceIte, t1, ta, tb])
      refine ⟨trivial, trivial, trivial, trivial, ?_⟩
      rw [wrap64 (by omega) (by omega)]; rfl
    · refine WC.cond (b := false) (by (try simp only [wk, wl, wx, reduceLT, reduceEqDiff, Nat.reduceBEq, reduceIte]); (try simp); (try omega)) (WC.exit ?_)
      have : i = x.exps.length := by omega
      subst this
      rw [List.take_length] at GG
      (try simp only [wk, wl, wx, reduceLT, reduceEqDiff, Nat.reduceBEq, reduceIte])
      generalize hY : X ++ x.exps.flatMap expB = Y at GG
      have lY : Y.length ≤ 1000000 := by
        rw [← hY, List.length_append]
        have : (x.exps.flatMap expB).length ≤ 80 * x.exps.length := flatB_len fun y hy => by
          have := sm.ename y hy
          simp only [expB, List.length_append, txt1_len, numB_length, List.length_cons, List.length_nil]; omega
        omega
      have G11 := GG
      have b11 := bh
      have ob11 := obh
      ((repeat refine WC.seq ?_); refine WC.run ?_)
      (try simp only [wk, wl, wx, reduceLT, reduceEqDiff, Nat.reduceBEq, reduceIte, t1, t4, fa50_0, fa50_1, fa50_2, fa50_3, fa50_4, fa50_5, fa50_6, Nat.zero_add, b11.at ty2 rfl, b11.at ty22 rfl, b11.at ty47 rfl, b11.at ty48 rfl, b11.at ty25 rfl, Sl.lenB ob11.exps ty47 rfl, Sl.lenB ob11.slots ty48 rfl, Sl.lenB ob11.needs ty25 rfl])
      refine (wnum_ok (n := (x.slots.length : Int)) G11.buf G11.low (by (try simp only [List.length_append, magB_len, txt1_len, numB_length, List.length_cons, List.length_nil]); omega)).mono fun v12 h12 g12 => ?_
      have G12 := G11.trans g12
      have x12 := g12.fix.next
      have b12 := G12.keeps b5 (by omega) (inB.sub fun b hb => by omega)
      have ob12 := ob5.grew G12 (by omega) inB
      (try simp only [wk, wl, wx, reduceLT, reduceEqDiff, Nat.reduceBEq, reduceIte, fa50_0, fa50_1, fa50_2, fa50_3, fa50_4, fa50_5, fa50_6, Nat.zero_add, b12.at ty2 rfl, b12.at ty22 rfl, b12.at ty47 rfl, b12.at ty48 rfl, b12.at ty25 rfl, Sl.lenB ob12.exps ty47 rfl, Sl.lenB ob12.slots ty48 rfl, Sl.lenB ob12.needs ty25 rfl, t1, t4])
      generalize hZ : Y ++ numB [(x.slots.length : Int)] = Z at G12
      have lZ : Z.length ≤ 1000008 := by rw [← hZ]; simp only [List.length_append, numB_length, List.length_cons, List.length_nil]; omega
      ((repeat refine WC.seq ?_); refine WC.run ?_)
      (try simp only [wk, wl, wx, reduceLT, reduceEqDiff, Nat.reduceBEq, reduceIte, t1, t4, fa50_0, fa50_1, fa50_2, fa50_3, fa50_4, fa50_5, fa50_6, Nat.zero_add, b12.at ty2 rfl, b12.at ty22 rfl, b12.at ty47 rfl, b12.at ty48 rfl, b12.at ty25 rfl, Sl.lenB ob12.exps ty47 rfl, Sl.lenB ob12.slots ty48 rfl, Sl.lenB ob12.needs ty25 rfl])
      (repeat refine WC.seq ?_)
      refine WC.block ?_
      refine WC.while (fun m fr hh => ∃ ts i sv, fr = ⟨ts, 92, [], 19, none⟩ ∧ GrewB g h5 (.slice h3.next 0 4 (.lit 4)) hh sv (Z ++ (x.slots.take i).flatMap slotB) ∧ m = x.slots.length - i ∧ i ≤ x.slots.length ∧ ts.get 1 = some (.ptr h.next 0) ∧ ts.get 4 = some sv ∧ ts.get 55 = some c.slots ∧ ts.get 56 = some (.int .i64 x.slots.length) ∧ ts.get 57 = some (.int .i64 i)) ?_ ⟨_, 0, v12, rfl, by simpa using G12, rfl, by omega, ?_, ?_, ?_, ?_, ?_⟩
      · rintro m fr hh ⟨ts, i, sv, rfl, GG, rfl, hi, t1, t4, ta, tb, tc⟩
        have xh := GG.fix.next
        have bh := GG.keeps b5 (by omega) (inB.sub fun b hb => by omega)
        have obh := ob5.grew GG (by omega) inB
        ((repeat refine WC.seq ?_); refine WC.run ?_)
        (try simp only [wk, wl, wx, reduceLT, reduceEqDiff, Nat.reduceBEq, reduceIte, tb, tc])
        (repeat refine WC.seq ?_)
        by_cases hlt : i < x.slots.length
        · refine WC.cond (b := true) (by (try simp only [wk, wl, wx, reduceLT, reduceEqDiff, Nat.reduceBEq, reduceIte]); (try simp); (try omega)) (WC.skip ?_)
          (try simp only [wk, wl, wx, reduceLT, reduceEqDiff, Nat.reduceBEq, reduceIte])
          have hsl := sm.sname _ (List.getElem_mem hlt)
          have lY : ((x.slots.take i).flatMap slotB).length ≤ 88 * x.slots.length := by
            refine Nat.le_trans (flatB_len (B := 88) fun y hy => ?_) (Nat.mul_le_mul_left _ (by simp; omega))
            have := sm.sname y (List.mem_of_mem_take hy)
            simp only [slotB, List.length_append, txt1_len, numB_length, List.length_cons, List.length_nil]; omega
          obtain ⟨p, p1, p2⟩ := obh.slots.at (fun _ => rfl) ty48 rfl ty136 rfl (by decide) rfl hlt
          have p2 := p2 hh fun _ _ _ _ _ => rfl
          (repeat refine WC.seq ?_)
          refine WC.block ?_
          ((repeat refine WC.seq ?_); refine WC.run ?_)
          (try simp only [wk, wl, wx, reduceLT, reduceEqDiff, Nat.reduceBEq, reduceIte, ta, tc, p1, p2])
          refine wop_alloc ty136 ?_
          intro k1 d1 m1 e1
          (try simp only [wk, wl, wx, reduceLT, reduceEqDiff, Nat.reduceBEq, reduceIte])
          refine sat_store d1 ty136 rfl (by decide) rfl ?_
          intro k2 d2 m2 e2
          have E2 : Fix (· < hh.next) hh k2 := ⟨by omega, fun c hc => by rw [e2.same c (by omega), e1.same c (by omega)]⟩
          have G2 : GrewB g h5 (.slice h3.next 0 4 (.lit 4)) k2 sv (Z ++ (x.slots.take i).flatMap slotB) := GG.keep E2
          have nq : In (· ≠ hh.next) sv := fun b o n c q => by have := GG.low _ _ _ _ q; omega
          have d2 : Has k2 hh.next [.str x.slots[i].name, i64 x.slots[i].addr, i64 x.slots[i].bound] := d2
          (try simp only [wk, wl, wx, reduceLT, reduceEqDiff, Nat.reduceBEq, reduceIte])
          ((repeat refine WC.seq ?_); refine WC.draw (plans := pl19_14) (by kernel_rfl) ?_; simp only [pl19_14, List.mem_cons, List.not_mem_nil, or_false, forall_eq_or_imp, forall_eq])
          (try simp (maxSteps := 2000000) only [wk, wl, wx, reduceLT, reduceEqDiff, Nat.reduceBEq, reduceIte, wd, Chk, and_true, true_and, t4, fa136_0, fa136_1, fa136_2, Nat.zero_add, d2.at ty9 rfl, d2.at ty2 rfl, i64])
          refine (wtxt_ok (t := x.slots[i].name) G2.buf G2.low (by simp only [List.length_append, txt1_len, numB_length, List.length_cons, List.length_nil]; omega) (by omega)).mono fun w3 k3 g3 => ?_
          have J3 := g3
          have y3 := g3.fix.next
          have d3 := J3.keeps d2 (by omega) nq
          (try simp (maxSteps := 2000000) only [wk, wl, wx, reduceLT, reduceEqDiff, Nat.reduceBEq, reduceIte, wd, Chk, and_true, true_and, t4, fa136_0, fa136_1, fa136_2, Nat.zero_add, d3.at ty9 rfl, d3.at ty2 rfl, i64])
          refine (wnum_ok (n := x.slots[i].addr) J3.buf J3.low (by simp only [List.length_append, txt1_len, numB_length, List.length_cons, List.length_nil]; omega)).mono fun w4 k4 g4 => ?_
          have J4 := J3.trans g4
          have y4 := g4.fix.next
          have d4 := J4.keeps d2 (by omega) nq
          (try simp (maxSteps := 2000000) only [wk, wl, wx, reduceLT, reduceEqDiff, Nat.reduceBEq, reduceIte, wd, Chk, and_true, true_and, t4, fa136_0, fa136_1, fa136_2, Nat.zero_add, d4.at ty9 rfl, d4.at ty2 rfl, i64])
          refine (wnum_ok (n := x.slots[i].bound) J4.buf J4.low (by simp only [List.length_append, txt1_len, numB_length, List.length_cons, List.length_nil]; omega)).mono fun w5 k5 g5 => ?_
          have J5 := J4.trans g5
          have y5 := g5.fix.next
          have d5 := J5.keeps d2 (by omega) nq
          (try simp (maxSteps := 2000000) only [wk, wl, wx, reduceLT, reduceEqDiff, Nat.reduceBEq, reduceIte, wd, Chk, and_true, true_and, t4, fa136_0, fa136_1, fa136_2, Nat.zero_add, d5.at ty9 rfl, d5.at ty2 rfl, i64])
          ((repeat refine WC.seq ?_); refine WC.run ?_)
          (try simp only [wk, wl, wx, reduceLT, reduceEqDiff, Nat.reduceBEq, reduceIte, tc, bin_add])
          refine ⟨_, ?_, _, i + 1, w5, rfl, ?_, rfl, by omega, ?_⟩
          · omega
          · have := G2.trans J5
            rw [flatB_snoc slotB hlt]
            simpa only [slotB, List.append_assoc, nb2] using this
          (try simp only [wk, wl, wx, reduceLT, reduceEqDiff, Nat.reduceBEq, reduceIte, t1, ta, tb])
          refine ⟨trivial, trivial, trivial, trivial, ?_⟩
          rw [wrap64 (by omega) (by omega)]; rfl
        · refine WC.cond (b := false) (by (try simp only [wk, wl, wx, reduceLT, reduceEqDiff, Nat.reduceBEq, reduceIte]); (try simp); (try omega)) (WC.exit ?_)
          have : i = x.slots.length := by omega
          subst this
          rw [List.take_length] at GG
          (try simp only [wk, wl, wx, reduceLT, reduceEqDiff, Nat.reduceBEq, reduceIte])
          generalize hW : Z ++ x.slots.flatMap slotB = W at GG
          have lW : W.length ≤ 2000000 := by
            rw [← hW, List.length_append]
            have : (x.slots.flatMap slotB).length ≤ 88 * x.slots.length := flatB_len fun y hy => by
              have := sm.sname y hy
              simp only [slotB, List.length_append, txt1_len, numB_length, List.length_cons, List.length_nil]; omega
            omega
          have G13 := GG
          have b13 := bh
          have ob13 := obh
          ((repeat refine WC.seq ?_); refine WC.run ?_)
          (try simp only [wk, wl, wx, reduceLT, reduceEqDiff, Nat.reduceBEq, reduceIte, t1, t4, fa50_0, fa50_1, fa50_2, fa50_3, fa50_4, fa50_5, fa50_6, Nat.zero_add, b13.at ty2 rfl, b13.at ty22 rfl, b13.at ty47 rfl, b13.at ty48 rfl, b13.at ty25 rfl, Sl.lenB ob13.exps ty47 rfl, Sl.lenB ob13.slots ty48 rfl, Sl.lenB ob13.needs ty25 rfl])
          refine (wnum_ok (n := (x.needs.length : Int)) G13.buf G13.low (by (try simp only [List.length_append, magB_len, txt1_len, numB_length, List.length_cons, List.length_nil]); omega)).mono fun v14 h14 g14 => ?_
          have G14 := G13.trans g14
          have x14 := g14.fix.next
          have b14 := G14.keeps b5 (by omega) (inB.sub fun b hb => by omega)
          have ob14 := ob5.grew G14 (by omega) inB
          (try simp only [wk, wl, wx, reduceLT, reduceEqDiff, Nat.reduceBEq, reduceIte, fa50_0, fa50_1, fa50_2, fa50_3, fa50_4, fa50_5, fa50_6, Nat.zero_add, b14.at ty2 rfl, b14.at ty22 rfl, b14.at ty47 rfl, b14.at ty48 rfl, b14.at ty25 rfl, Sl.lenB ob14.exps ty47 rfl, Sl.lenB ob14.slots ty48 rfl, Sl.lenB ob14.needs ty25 rfl, t1, t4])
          generalize hT : W ++ numB [(x.needs.length : Int)] = T at G14
          have lT : T.length ≤ 2000008 := by rw [← hT]; simp only [List.length_append, numB_length, List.length_cons, List.length_nil]; omega
          ((repeat refine WC.seq ?_); refine WC.run ?_)
          (try simp only [wk, wl, wx, reduceLT, reduceEqDiff, Nat.reduceBEq, reduceIte, t1, t4, fa50_0, fa50_1, fa50_2, fa50_3, fa50_4, fa50_5, fa50_6, Nat.zero_add, b14.at ty2 rfl, b14.at ty22 rfl, b14.at ty47 rfl, b14.at ty48 rfl, b14.at ty25 rfl, Sl.lenB ob14.exps ty47 rfl, Sl.lenB ob14.slots ty48 rfl, Sl.lenB ob14.needs ty25 rfl])
          (repeat refine WC.seq ?_)
          refine WC.block ?_
          refine WC.while (fun m fr hh => ∃ ts i sv, fr = ⟨ts, 92, [], 19, none⟩ ∧ GrewB g h5 (.slice h3.next 0 4 (.lit 4)) hh sv (T ++ txtB (x.needs.take i)) ∧ m = x.needs.length - i ∧ i ≤ x.needs.length ∧ ts.get 1 = some (.ptr h.next 0) ∧ ts.get 4 = some sv ∧ ts.get 78 = some c.needs ∧ ts.get 79 = some (.int .i64 x.needs.length) ∧ ts.get 80 = some (.int .i64 i)) ?_ ⟨_, 0, v14, rfl, by simpa [txtB] using G14, rfl, by omega, ?_, ?_, ?_, ?_, ?_⟩
          · rintro m fr hh ⟨ts, i, sv, rfl, GG, rfl, hi, t1, t4, ta, tb, tc⟩
            have xh := GG.fix.next
            have bh := GG.keeps b5 (by omega) (inB.sub fun b hb => by omega)
            have obh := ob5.grew GG (by omega) inB
            ((repeat refine WC.seq ?_); refine WC.run ?_)
            (try simp only [wk, wl, wx, reduceLT, reduceEqDiff, Nat.reduceBEq, reduceIte, tb, tc])
            (repeat refine WC.seq ?_)
            have lY : (txtB (x.needs.take i)).length ≤ 72 * x.needs.length := Nat.le_trans (txtB_length (B := 64) fun p hp => sm.nname p (List.mem_of_mem_take hp)) (Nat.mul_le_mul_left _ (by simp; omega))
            by_cases hlt : i < x.needs.length
            · refine WC.cond (b := true) (by (try simp only [wk, wl, wx, reduceLT, reduceEqDiff, Nat.reduceBEq, reduceIte]); (try simp); (try omega)) (WC.skip ?_)
              (try simp only [wk, wl, wx, reduceLT, reduceEqDiff, Nat.reduceBEq, reduceIte])
              have hsl := sm.nname _ (List.getElem_mem hlt)
              obtain ⟨p, p1, p2⟩ := obh.needs.at ty25 rfl ty9 rfl rfl hlt
              have p2 := p2 hh fun _ _ _ _ _ => rfl
              (repeat refine WC.seq ?_)
              refine WC.block ?_
              ((repeat refine WC.seq ?_); refine WC.run ?_)
              (try simp only [wk, wl, wx, reduceLT, reduceEqDiff, Nat.reduceBEq, reduceIte, ta, tc, p1, p2])
              ((repeat refine WC.seq ?_); refine WC.run ?_)
              (try simp only [wk, wl, wx, reduceLT, reduceEqDiff, Nat.reduceBEq, reduceIte, t4])
              refine (wtxt_ok (t := x.needs[i]) GG.buf GG.low (by simp only [List.length_append]; omega) (by omega)).mono fun w3 k3 g3 => ?_
              (try simp only [wk, wl, wx, reduceLT, reduceEqDiff, Nat.reduceBEq, reduceIte])
              ((repeat refine WC.seq ?_); refine WC.run ?_)
              (try simp only [wk, wl, wx, reduceLT, reduceEqDiff, Nat.reduceBEq, reduceIte, tc, bin_add])
              refine ⟨_, ?_, _, i + 1, w3, rfl, ?_, rfl, by omega, ?_⟩
              · omega
              · have := GG.trans g3
                rw [txtB_snoc hlt]
                simpa only [txtB, List.flatMap_cons, List.flatMap_nil, List.append_nil, List.append_assoc] using this
              (try simp only [wk, wl, wx, reduceLT, reduceEqDiff, Nat.reduceBEq, reduceIte, t1, ta, tb])
              refine ⟨trivial, trivial, trivial, trivial, ?_⟩
              rw [wrap64 (by omega) (by omega)]; rfl
            · refine WC.cond (b := false) (by (try simp only [wk, wl, wx, reduceLT, reduceEqDiff, Nat.reduceBEq, reduceIte]); (try simp); (try omega)) (WC.exit ?_)
              have : i = x.needs.length := by omega
              subst this
              rw [List.take_length] at GG
              (try simp only [wk, wl, wx, reduceLT, reduceEqDiff, Nat.reduceBEq, reduceIte])
              rw [List.take_length] at lY
              have G15 := GG
              ((repeat refine WC.seq ?_); refine WC.run ?_)
              (try simp only [wk, wl, wx, reduceLT, reduceEqDiff, Nat.reduceBEq, reduceIte, t1, t4])
              refine (rsum_ok G15.buf.sl (by simp only [List.length_append, txt1_len]; omega)).mono fun v16 h16 ⟨e16, e16'⟩ => ?_
              subst e16 e16'
              (try simp only [wk, wl, wx, reduceLT, reduceEqDiff, Nat.reduceBEq, reduceIte])
              refine (put_ok (k := 4) (n := ((sumN (T ++ txtB x.needs) % 4294967296 : Nat) : Int)) G15.buf G15.low (by omega) (by simp only [List.length_append, txt1_len]; omega)).mono fun v17 h17 g17 => ?_
              have G17 := G15.trans g17
              have x17 := G17.fix.next
              (try simp only [wk, wl, wx, reduceLT, reduceEqDiff, Nat.reduceBEq, reduceIte])
              refine WC.ret ?_
              (try simp only [wk, wl, wx, reduceLT, reduceEqDiff, Nat.reduceBEq, reduceIte])
              refine ⟨⟨by omega, fun b hb => ?_⟩, fun q => (by cases q), fun _ => ⟨_, rfl, ?_, fun b o n c e => ⟨?_, G17.low _ _ _ _ e⟩⟩⟩
              · rw [G17.fix.same b ⟨by omega, fun o m cc e => by injection e with e; omega⟩, f5.same b (by omega), f4.same b (by omega), f3.same b (by omega), f1.same b hb]
              · have := G17.buf
                rw [U_nat (by omega)] at this
                rw [← hT, ← hW, ← hZ, ← hY, ← hX] at this
                have e3 : imgB x = sealB (magB 1 ++ numB [x.base] ++ txtB [x.bytes] ++ numB [x.code] ++ numB [x.entry] ++ numB [(x.exps.length : Int)] ++ x.exps.flatMap expB ++ numB [(x.slots.length : Int)] ++ x.slots.flatMap slotB ++ numB [(x.needs.length : Int)] ++ txtB x.needs) := by
                  unfold imgB imgP
                  rw [← nb3 x.code x.entry]
                  simp only [List.append_assoc]
                rw [e3]
                exact this
              · rcases G17.own _ _ _ _ e with q | ⟨_, _, _, q⟩
                · omega
                · injection q with q; omega
          all_goals (try simp only [wk, wl, wx, reduceLT, reduceEqDiff, Nat.reduceBEq, reduceIte, t1, t4])
          all_goals (first | trivial | rfl | simp)
      all_goals (try simp only [wk, wl, wx, reduceLT, reduceEqDiff, Nat.reduceBEq, reduceIte, t1, t4])
      all_goals (first | trivial | rfl | simp)
  all_goals (try simp only [wk, wl, wx, reduceLT, reduceEqDiff, Nat.reduceBEq, reduceIte])
  all_goals (first | trivial | rfl | simp)
end Go.Proofs.OP
