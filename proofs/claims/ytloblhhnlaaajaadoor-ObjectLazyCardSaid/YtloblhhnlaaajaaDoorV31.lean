/- Walks: BindAll of both sides. -/
import Derived.Test.YtloblhhnlaaajaaDoorV15
import Derived.Test.YtloblhhnlaaajaaDoorV30
set_option linter.unusedVariables false
set_option linter.unusedSimpArgs false
set_option linter.defProp false
set_option linter.unusedSimpArgs false
namespace Go.Proofs.OP
open Go Go.Ev
open Go.Proofs
open Nat (reduceLT reduceEqDiff)
variable {g : T (List V)}

def plV (t : Nat × Nat × Int) : List V := [i64 (t.1 : Int), i64 (t.2.1 : Int), i64 t.2.2]
theorem plV_length (t : Nat × Nat × Int) : (plV t).length = 3 := rfl
theorem plV_one (t : Nat × Nat × Int) : (plV t).all V.one = true := rfl
theorem build159s {a b c : Int} : buildV (E g) 121 [(0, .int .i64 a), (1, .int .i64 b), (2, .int .i64 c)] = some (.agg [.int .i64 a, .int .i64 b, .int .i64 c]) := by
 simp only [buildV, ty121, fillAll, nth, sizeOf_of ty3, sizeOf_of ty2, List.all_cons, List.all_nil, ty3, ty2, Option.isSome_some, Bool.and_true, Bool.not_true, cond_false]
 rfl
theorem count_le (xs : List ImgD) (hg : Good xs) : ∀ i, (todoI xs i).length ≤ 5000 * i
 | 0 => by simp [todoI]
 | i + 1 => by
  have ih := count_le xs hg i
  have h1 : ∀ k, (todoS xs i k).length ≤ k := fun k => by
   induction k with
   | zero => simp [todoS]
   | succ k ih =>
    have : (oneT xs i k).length ≤ 1 := by unfold oneT; split; · simp
                                          ·split <;> simp
    rw [todoS, List.length_append]; omega
  have h2 : nslots xs i ≤ 5000 := by
   unfold nslots
   cases hx : xs[i]? with
   | none => simp
   | some x => have := (hg.at hx).slots; simpa using this
  have := h1 (nslots xs i)
  rw [todoI, List.length_append]; omega
theorem todoS_le (xs : List ImgD) (i : Nat) : ∀ k, (todoS xs i k).length ≤ k
 | 0 => by simp [todoS]
 | k + 1 => by
  have ih := todoS_le xs i k
  have : (oneT xs i k).length ≤ 1 := by unfold oneT; split; · simp
                                        ·split <;> simp
  rw [todoS, List.length_append]; omega

set_option maxRecDepth 100000 in
set_option maxHeartbeats 8000000 in
theorem bindAll_ok {h : H} {lo hi pb sb : Nat} {sc : Cp} {tag : Nat → Nat} {cs : List Ic} {xs : List ImgD} (a : PM g h lo hi pb sb sc tag cs xs) (hx : xs.length < 1000) (hg : Good xs) :
  WF (E g) 14 [.ptr pb 0] h fun v h' => v = .tuple [i64 (bindAllP xs).2.1, i64 (bindAllP xs).2.2] ∧ PM g h' lo hi pb sb sc tag cs (bindAllP xs).1 ∧ Rest lo hi h h' := by
 have hh := a.his
 have l0 : loadP (E g) h 108 (.ptr pb 0) = some (.slice sb 0 xs.length sc) := a.has.at ty108 rfl 0
 refine WF.enter fn14 rfl ?_
 ((repeat refine WC.seq ?_); refine WC.run ?_)
 (try simp only [wk, wl, wx, reduceLT, reduceEqDiff, Nat.reduceBEq, reduceIte])
 ((repeat refine WC.seq ?_); refine WC.run ?_)
 (try simp only [wk, wl, wx, reduceLT, reduceEqDiff, Nat.reduceBEq, reduceIte, bin_pnil])
 (repeat refine WC.seq ?_)
 refine WC.cond (b := false) (by (try simp only [wk, wl, wx, reduceLT, reduceEqDiff, Nat.reduceBEq, reduceIte]); (try simp); (try omega)) (WC.skip ?_)
 (try simp only [wk, wl, wx, reduceLT, reduceEqDiff, Nat.reduceBEq, reduceIte])
 ((repeat refine WC.seq ?_); refine WC.run ?_)
 (try simp only [wk, wl, wx, reduceLT, reduceEqDiff, Nat.reduceBEq, reduceIte])
 ((repeat refine WC.seq ?_); refine WC.run ?_)
 (try simp only [wk, wl, wx, reduceLT, reduceEqDiff, Nat.reduceBEq, reduceIte, fa110_0, Nat.zero_add, l0, Sl.lenB a.sl ty108 rfl])
 (repeat refine WC.seq ?_)
 refine WC.block ?_
 refine WC.while (fun m fr hk => ∃ ts i tv, fr = ⟨ts, 78, [], 14, none⟩ ∧ Kept h hk ∧ m = xs.length - i ∧ i ≤ xs.length ∧ ts.get 0 = some (.ptr pb 0) ∧ ts.get 4 = some tv ∧ ts.get 19 = some (.slice sb 0 xs.length sc) ∧ ts.get 20 = some (.int .i64 xs.length) ∧ ts.get 21 = some (.int .i64 i) ∧ Buf (E g) hk 121 3 tv (todoI xs i).length ((todoI xs i).flatMap plV) ∧ In (fun b => h.next ≤ b ∧ b < hk.next) tv ∧ ∀ j (hj : j < xs.length), j < i → okX xs xs[j] = true) ?_ ⟨_, 0, .nils, rfl, Fix.refl _ _, rfl, by omega, ?_, ?_, ?_, ?_, ?_, .nil, In.nils, fun j hj hji => absurd hji (Nat.not_lt_zero _)⟩
 ·rintro m fr hk ⟨ts, i, tv, rfl, fk, rfl, hil, t0, t4, t19, t20, t21, bu, nw, hok⟩
  have xk := fk.next
  have ak := a.kept fk
  have hcnt := count_le xs hg i
  ((repeat refine WC.seq ?_); refine WC.run ?_)
  (try simp only [wk, wl, wx, reduceLT, reduceEqDiff, Nat.reduceBEq, reduceIte, t20, t21])
  (repeat refine WC.seq ?_)
  by_cases hlt : i < xs.length
  ·refine WC.cond (b := true) (by (try simp only [wk, wl, wx, reduceLT, reduceEqDiff, Nat.reduceBEq, reduceIte]); (try simp); (try omega)) (WC.skip ?_)
   (try simp only [wk, wl, wx, reduceLT, reduceEqDiff, Nat.reduceBEq, reduceIte])
   obtain ⟨c, hc⟩ := ak.ic hlt
   have hxi : xs[i]? = some xs[i] := List.getElem?_eq_getElem hlt
   have mi := ak.im i c xs[i] hc hxi
   have ac := ak.cell hc hxi
   have sm := hg.at hxi
   have ssl := sm.slots
   have lx : loadP (E g) hk 32 (.ptr sb (i * 7)) = some (.agg (c.cells xs[i])) := ac.agg ty32 rfl rfl
   (repeat refine WC.seq ?_)
   refine WC.block ?_
   ((repeat refine WC.seq ?_); refine WC.run ?_)
   (try simp only [wk, wl, wx, reduceLT, reduceEqDiff, Nat.reduceBEq, reduceIte, t19, t21, idx_slice ty108 rfl ty32 hlt, Nat.zero_add, lx])
   refine wop_alloc ty32 ?_
   intro h5 b5 n5 f5
   (try simp only [wk, wl, wx, reduceLT, reduceEqDiff, Nat.reduceBEq, reduceIte])
   refine sat_store b5 ty32 rfl (Nat.le_refl 7) (by simp only [V.cells, Ic.cells, List.all_cons, List.all_nil, (Sl.one mi.im.bytes).2, (Sl.one mi.im.exps).2, (Sl.one mi.im.slots).2, (Sl.one mi.im.needs).2, Bool.and_true]; rfl) ?_
   intro h6 b6 n6 f6
   have b6 : Has h6 hk.next [i64 xs[i].base, c.bytes, i64 xs[i].code, i64 xs[i].entry, c.exps, c.slots, c.needs] := b6
   have F6 : Kept hk h6 := ⟨by omega, fun b hb => by rw [f6.same b (by omega), f5.same b hb]⟩
   have K6 : Kept h h6 := fk.trans (F6.sub fun b hb => by omega)
   have a6 := a.kept K6
   have mi6 := a6.im i c xs[i] hc hxi
   have bu6 := bu.fix (nw.sub fun b hb => hb.2) F6
   (try simp only [wk, wl, wx, reduceLT, reduceEqDiff, Nat.reduceBEq, reduceIte])
   ((repeat refine WC.seq ?_); refine WC.run ?_)
   (try simp only [wk, wl, wx, reduceLT, reduceEqDiff, Nat.reduceBEq, reduceIte, fa32_5, Nat.zero_add, b6.at ty29 rfl, Sl.lenB mi6.im.slots ty29 rfl])
   (repeat refine WC.seq ?_)
   refine WC.block ?_
   refine WC.while (fun m fr hq => ∃ ts k tv, fr = ⟨ts, 78, [], 14, none⟩ ∧ Kept h hq ∧ h6.next ≤ hq.next ∧ m = xs[i].slots.length - k ∧ k ≤ xs[i].slots.length ∧ ts.get 0 = some (.ptr pb 0) ∧ ts.get 4 = some tv ∧ ts.get 5 = some (.int .i64 i) ∧ ts.get 19 = some (.slice sb 0 xs.length sc) ∧ ts.get 20 = some (.int .i64 xs.length) ∧ ts.get 21 = some (.int .i64 i) ∧ ts.get 27 = some c.slots ∧ ts.get 28 = some (.int .i64 xs[i].slots.length) ∧ ts.get 29 = some (.int .i64 k) ∧ Buf (E g) hq 121 3 tv (todoI xs i ++ todoS xs i k).length ((todoI xs i ++ todoS xs i k).flatMap plV) ∧ In (fun b => h.next ≤ b ∧ b < hq.next) tv ∧ ∀ j (hj : j < xs[i].slots.length), j < k → okS xs xs[i].slots[j] = true) ?_ ⟨_, 0, tv, rfl, K6, Nat.le_refl _, rfl, by omega, ?_, ?_, ?_, ?_, ?_, ?_, ?_, ?_, ?_, by simpa [todoS] using bu6, nw.sub fun b hb => by omega, fun j hj hji => absurd hji (Nat.not_lt_zero _)⟩
   ·rintro m fr hq ⟨ts, k, tv, rfl, fq, xq, rfl, hkl, t0, t4, t5, t19, t20, t21, t27, t28, t29, buq, nwq, hoq⟩
    have aq := a.kept fq
    have miq := aq.im i c xs[i] hc hxi
    have hts := todoS_le xs i k
    ((repeat refine WC.seq ?_); refine WC.run ?_)
    (try simp only [wk, wl, wx, reduceLT, reduceEqDiff, Nat.reduceBEq, reduceIte, t28, t29])
    (repeat refine WC.seq ?_)
    by_cases hkt : k < xs[i].slots.length
    ·refine WC.cond (b := true) (by (try simp only [wk, wl, wx, reduceLT, reduceEqDiff, Nat.reduceBEq, reduceIte]); (try simp); (try omega)) (WC.skip ?_)
     (try simp only [wk, wl, wx, reduceLT, reduceEqDiff, Nat.reduceBEq, reduceIte])
     have hsl := slotAt_of hxi hkt
     obtain ⟨p, p1, p2⟩ := miq.im.slots.at slotV_length ty29 rfl ty43 rfl (by decide) rfl hkt
     have p2 := p2 hq fun _ _ _ _ _ => rfl
     (repeat refine WC.seq ?_)
     refine WC.block ?_
     ((repeat refine WC.seq ?_); refine WC.run ?_)
     (try simp only [wk, wl, wx, reduceLT, reduceEqDiff, Nat.reduceBEq, reduceIte, t27, t29, p1, p2])
     refine wop_alloc ty43 ?_
     intro k5 c5 m5 g5
     (try simp only [wk, wl, wx, reduceLT, reduceEqDiff, Nat.reduceBEq, reduceIte])
     refine sat_store c5 ty43 rfl (by decide) rfl ?_
     intro k6 c6 m6 g6
     have c6 : Has k6 hq.next [.str xs[i].slots[k].name, i64 xs[i].slots[k].addr, i64 xs[i].slots[k].bound] := c6
     have G6 : Kept hq k6 := ⟨by omega, fun b hb => by rw [g6.same b (by omega), g5.same b hb]⟩
     have L6 : Kept h k6 := fq.trans (G6.sub fun b hb => by have := fq.next; omega)
     have xq0 := fq.next
     (try simp only [wk, wl, wx, reduceLT, reduceEqDiff, Nat.reduceBEq, reduceIte])
     ((repeat refine WC.seq ?_); refine WC.run ?_)
     (try simp only [wk, wl, wx, reduceLT, reduceEqDiff, Nat.reduceBEq, reduceIte, fa43_2, Nat.zero_add, c6.at ty2 rfl, i64])
     (repeat refine WC.seq ?_)
     by_cases hb : xs[i].slots[k].bound = 0
     ·refine WC.cond (b := false) (by (try simp only [wk, wl, wx, reduceLT, reduceEqDiff, Nat.reduceBEq, reduceIte, hb]); (try simp); (try omega)) (WC.skip ?_)
      (try simp only [wk, wl, wx, reduceLT, reduceEqDiff, Nat.reduceBEq, reduceIte])
      ((repeat refine WC.seq ?_); refine WC.run ?_)
      (try simp only [wk, wl, wx, reduceLT, reduceEqDiff, Nat.reduceBEq, reduceIte, t0, fa43_0, Nat.zero_add, c6.at ty9 rfl])
      refine (lookup_ok (nm := xs[i].slots[k].name) (a.kept L6) (by omega) hg.exps).mono fun v h7 ⟨e7, f7⟩ => ?_
      subst e7
      have x7 := f7.next
      have F7 : Kept h h7 := L6.trans (f7.sub fun b hb => by omega)
      (try simp only [wk, wl, wx, reduceLT, reduceEqDiff, Nat.reduceBEq, reduceIte, lookV, i64])
      ((repeat refine WC.seq ?_); refine WC.run ?_)
      (try simp only [wk, wl, wx, reduceLT, reduceEqDiff, Nat.reduceBEq, reduceIte])
      (repeat refine WC.seq ?_)
      by_cases hl : (lookP xs[i].slots[k].name 0 xs).2.2 = 0
      ·refine WC.cond (b := false) (by (try simp only [wk, wl, wx, reduceLT, reduceEqDiff, Nat.reduceBEq, reduceIte, hl]); (try simp); (try omega)) (WC.skip ?_)
       (try simp only [wk, wl, wx, reduceLT, reduceEqDiff, Nat.reduceBEq, reduceIte])
       ((repeat refine WC.seq ?_); refine WC.run ?_)
       (try simp only [wk, wl, wx, reduceLT, reduceEqDiff, Nat.reduceBEq, reduceIte, t4, t5, t29, build159s])
       refine sat_buildSlice (cs := plV (i, k, (lookP xs[i].slots[k].name 0 xs).1)) ty119 rfl ty121 rfl (by decide) (by decide) (fill3 rfl) rfl ?_
       intro h8 b8 n8 f8
       have bu8 := ((buq.fix (nwq.sub fun b hb => hb.2) G6).fix (nwq.sub fun b hb => by omega) f7).fix (nwq.sub fun b hb => by omega) f8
       (try simp only [wk, wl, wx, reduceLT, reduceEqDiff, Nat.reduceBEq, reduceIte])
       refine sat_grow bu8 (nwq.sub fun b hb => by omega) ty119 rfl ty119 (.inl ⟨_, rfl⟩) ty121 rfl (by decide) (by decide) b8.sl.len b8.sl.cells rfl (plV_one _) (by simp only [List.length_append]; omega) ?_
       intro sw h9 g9
       have x9 := g9.fix.next
       have L9 : Kept h h9 := ⟨by omega, fun b hb => by rw [g9.fix.same b ⟨by omega, fun o m cc e => by have := nwq _ _ _ _ e; omega⟩, f8.same b (by omega), F7.same b hb]⟩
       have w9 : In (fun b => h.next ≤ b ∧ b < h9.next) sw := fun b o n c e => ⟨by
        rcases g9.own _ _ _ _ e with q | ⟨o, k, c, q⟩
        ·omega
        ·exact (nwq _ _ _ _ q).1, g9.low _ _ _ _ e⟩
       (try simp only [wk, wl, wx, reduceLT, reduceEqDiff, Nat.reduceBEq, reduceIte])
       ((repeat refine WC.seq ?_); refine WC.run ?_)
       (try simp only [wk, wl, wx, reduceLT, reduceEqDiff, Nat.reduceBEq, reduceIte, t29, bin_add])
       refine ⟨_, ?_, _, k + 1, sw, rfl, L9, by omega, rfl, by omega, ?_⟩
       ·omega
       (try simp only [wk, wl, wx, reduceLT, reduceEqDiff, Nat.reduceBEq, reduceIte, t0, t5, t19, t20, t21, t27, t28])
       refine ⟨trivial, trivial, trivial, trivial, trivial, trivial, trivial, trivial, ?_, ?_, w9, fun j hj hjk => ?_⟩
       ·rw [wrap64 (by omega) (by omega)]; rfl
       ·have hone : oneT xs i k = [(i, k, (lookP xs[i].slots[k].name 0 xs).1)] := by unfold oneT; rw [hsl]; simp only [hb, if_true]
        have := g9.buf
        rw [todoS, hone, ← List.append_assoc]
        simpa [Nat.add_assoc] using this
       ·rcases Nat.lt_succ_iff_lt_or_eq.1 hjk with r | rfl
        ·exact hoq j hj r
        ·simp only [okS, hl, decide_true, Bool.or_true]
      ·refine WC.cond (b := true) (by (try simp only [wk, wl, wx, reduceLT, reduceEqDiff, Nat.reduceBEq, reduceIte, hl]); (try simp); (try omega)) ?_
       ((repeat refine WC.seq ?_); refine WC.run ?_)
       (try simp only [wk, wl, wx, reduceLT, reduceEqDiff, Nat.reduceBEq, reduceIte])
       refine WC.ret ?_
       (try simp only [wk, wl, wx, reduceLT, reduceEqDiff, Nat.reduceBEq, reduceIte])
       have hbad : okS xs xs[i].slots[k] = false := by simp [okS, hb, hl]
       have hP : bindAllP xs = (xs, 0, 22) := by
        unfold bindAllP
        rw [okX_false (List.getElem_mem hlt) (List.getElem_mem hkt) hbad]; rfl
       have h22 : (lookP xs[i].slots[k].name 0 xs).2.2 = 22 := by
        rcases lookP_err (nm := xs[i].slots[k].name) (xs := xs) (n := 0) with q | q
        ·exact absurd q hl
        ·exact q
       rw [hP, h22]
       exact ⟨by trivial, a.kept F7, F7.sub fun b hb => hb.1⟩
     ·refine WC.cond (b := true) (by (try simp only [wk, wl, wx, reduceLT, reduceEqDiff, Nat.reduceBEq, reduceIte, hb]); (try simp); (try omega)) ?_
      (try simp only [wk, wl, wx, reduceLT, reduceEqDiff, Nat.reduceBEq, reduceIte])
      refine WC.exit ?_
      (try simp only [wk, wl, wx, reduceLT, reduceEqDiff, Nat.reduceBEq, reduceIte, show Nat.beq 3 3 = true from rfl])
      ((repeat refine WC.seq ?_); refine WC.run ?_)
      (try simp only [wk, wl, wx, reduceLT, reduceEqDiff, Nat.reduceBEq, reduceIte, t29, bin_add])
      refine ⟨_, ?_, _, k + 1, tv, rfl, L6, by omega, rfl, by omega, ?_⟩
      ·omega
      (try simp only [wk, wl, wx, reduceLT, reduceEqDiff, Nat.reduceBEq, reduceIte, t0, t4, t5, t19, t20, t21, t27, t28])
      refine ⟨trivial, trivial, trivial, trivial, trivial, trivial, trivial, trivial, ?_, ?_, nwq.sub fun b hb => by omega, fun j hj hjk => ?_⟩
      ·rw [wrap64 (by omega) (by omega)]; rfl
      ·have hone : oneT xs i k = [] := by unfold oneT; rw [hsl]; simp only [hb, if_false]
       rw [todoS, hone, List.append_nil]
       exact buq.fix (nwq.sub fun b hb => hb.2) G6
      ·rcases Nat.lt_succ_iff_lt_or_eq.1 hjk with r | rfl
       ·exact hoq j hj r
       ·simp [okS, hb]
    ·refine WC.cond (b := false) (by (try simp only [wk, wl, wx, reduceLT, reduceEqDiff, Nat.reduceBEq, reduceIte]); (try simp); (try omega)) (WC.exit ?_)
     have : k = xs[i].slots.length := by omega
     subst this
     (try simp only [wk, wl, wx, reduceLT, reduceEqDiff, Nat.reduceBEq, reduceIte, show Nat.beq 2 2 = true from rfl])
     ((repeat refine WC.seq ?_); refine WC.run ?_)
     (try simp only [wk, wl, wx, reduceLT, reduceEqDiff, Nat.reduceBEq, reduceIte, t21, bin_add])
     refine ⟨_, ?_, _, i + 1, tv, rfl, fq, rfl, by omega, ?_⟩
     ·omega
     (try simp only [wk, wl, wx, reduceLT, reduceEqDiff, Nat.reduceBEq, reduceIte, t0, t4, t19, t20])
     refine ⟨trivial, trivial, trivial, trivial, ?_, ?_, nwq, fun j hj hji => ?_⟩
     ·rw [wrap64 (by omega) (by omega)]; rfl
     ·rw [todoI, nslots_of hxi]; exact buq
     ·rcases Nat.lt_succ_iff_lt_or_eq.1 hji with r | rfl
      ·exact hok j hj r
      ·rw [okX, List.all_eq_true]
       intro s hs
       obtain ⟨q, hq, rfl⟩ := List.getElem_of_mem hs
       exact hoq q hq hq
   all_goals (try simp only [wk, wl, wx, reduceLT, reduceEqDiff, Nat.reduceBEq, reduceIte, t0, t4, t19, t20, t21])
   all_goals (first | done | rfl | trivial | simp)
  ·refine WC.cond (b := false) (by (try simp only [wk, wl, wx, reduceLT, reduceEqDiff, Nat.reduceBEq, reduceIte]); (try simp); (try omega)) (WC.exit ?_)
   have : i = xs.length := by omega
   subst this
   (try simp only [wk, wl, wx, reduceLT, reduceEqDiff, Nat.reduceBEq, reduceIte])
   have hall : allOk xs = true := by
    rw [allOk, List.all_eq_true]
    intro x hx
    obtain ⟨q, hq, rfl⟩ := List.getElem_of_mem hx
    exact hok q hq hq
   have hP : bindAllP xs = (bindI xs xs.length, ((todoI xs xs.length).length : Int), 0) := by unfold bindAllP; rw [if_pos hall]
   rw [hP]
   generalize hT : todoI xs xs.length = T at bu hcnt
   have sT : Rcs (E g) hk 3 plV tv T := bu.sl
   ((repeat refine WC.seq ?_); refine WC.run ?_)
   (try simp only [wk, wl, wx, reduceLT, reduceEqDiff, Nat.reduceBEq, reduceIte, t4, Sl.lenB sT ty119 rfl])
   (repeat refine WC.seq ?_)
   refine WC.block ?_
   refine WC.while (fun m fr hq => ∃ ts j, fr = ⟨ts, 78, [], 14, none⟩ ∧ PM g hq lo hi pb sb sc tag cs (runT (T.take j) xs) ∧ Rest lo hi hk hq ∧ m = T.length - j ∧ j ≤ T.length ∧ ts.get 0 = some (.ptr pb 0) ∧ ts.get 4 = some tv ∧ ts.get 57 = some tv ∧ ts.get 58 = some (.int .i64 T.length) ∧ ts.get 59 = some (.int .i64 j)) ?_ ⟨_, 0, rfl, by simpa [runT] using ak, Fix.refl _ _, rfl, by omega, ?_, ?_, ?_, ?_, ?_⟩
   ·rintro m fr hq ⟨ts, j, rfl, aq, fq, rfl, hj, t0, t4, t57, t58, t59⟩
    have xq := fq.next
    have sTq := Sl.fix sT (nw.sub fun b hb => (⟨hb.2, by omega⟩ : b < hk.next ∧ ¬ (lo ≤ b ∧ b < hi))) fq
    ((repeat refine WC.seq ?_); refine WC.run ?_)
    (try simp only [wk, wl, wx, reduceLT, reduceEqDiff, Nat.reduceBEq, reduceIte, t58, t59])
    (repeat refine WC.seq ?_)
    by_cases hjt : j < T.length
    ·refine WC.cond (b := true) (by (try simp only [wk, wl, wx, reduceLT, reduceEqDiff, Nat.reduceBEq, reduceIte]); (try simp); (try omega)) (WC.skip ?_)
     (try simp only [wk, wl, wx, reduceLT, reduceEqDiff, Nat.reduceBEq, reduceIte])
     have hmem : T[j] ∈ todoI xs xs.length := by rw [hT]; exact List.getElem_mem hjt
     obtain ⟨s, hs1, hs2, hs3⟩ := todoI_mem hmem
     obtain ⟨y, hy, hyk⟩ := slotAt_shape (runT_shapes (T.take j) xs).symm hs1
     have hlen : (runT (T.take j) xs).length = xs.length := shapes_length (runT_shapes _ _)
     have hgj : Good (runT (T.take j) xs) := runT_good hg fun t ht => by
      have ht : t ∈ todoI xs xs.length := by rw [hT]; exact List.mem_of_mem_take ht
      obtain ⟨s', q1, q2, q3⟩ := todoI_mem ht
      have := allOk_slot hall q1
      simp only [okS, q2, bne_self_eq_false, Bool.false_or, decide_eq_true_eq] at this
      rw [q3]; exact lookP_addr hg this
     obtain ⟨hi1, _⟩ := List.getElem?_eq_some_iff.1 hy
     rw [hlen] at hi1
     obtain ⟨c, hc⟩ := aq.ic (i := T[j].1) (by omega)
     have lq : loadP (E g) hq 108 (.ptr pb 0) = some (.slice sb 0 xs.length sc) := by have := aq.has.at (E := E g) ty108 rfl 0; rw [hlen] at this; exact this
     obtain ⟨p, p1, p2⟩ := Rcs.at sTq plV_length ty119 rfl ty121 rfl (by decide) rfl hjt
     have p2 := p2 hq fun _ _ _ _ _ => rfl
     (repeat refine WC.seq ?_)
     refine WC.block ?_
     ((repeat refine WC.seq ?_); refine WC.run ?_)
     (try simp only [wk, wl, wx, reduceLT, reduceEqDiff, Nat.reduceBEq, reduceIte, t57, t59, p1, p2])
     refine wop_alloc ty121 ?_
     intro k5 c5 m5 g5
     (try simp only [wk, wl, wx, reduceLT, reduceEqDiff, Nat.reduceBEq, reduceIte])
     refine sat_store c5 ty121 rfl (by decide) rfl ?_
     intro k6 c6 m6 g6
     have c6 : Has k6 hq.next [i64 (T[j].1 : Int), i64 (T[j].2.1 : Int), i64 T[j].2.2] := c6
     have G6 : Kept hq k6 := ⟨by omega, fun b hb => by rw [g6.same b (by omega), g5.same b hb]⟩
     have a6 := aq.kept G6
     have l6 : loadP (E g) k6 108 (.ptr pb 0) = some (.slice sb 0 xs.length sc) := by have := a6.has.at (E := E g) ty108 rfl 0; rw [hlen] at this; exact this
     (try simp only [wk, wl, wx, reduceLT, reduceEqDiff, Nat.reduceBEq, reduceIte])
     ((repeat refine WC.seq ?_); refine WC.draw (plans := pl14_20) (by kernel_rfl) ?_; simp only [pl14_20, List.mem_cons, List.not_mem_nil, or_false, forall_eq_or_imp, forall_eq])
     (try simp (maxSteps := 2000000) only [wk, wl, wx, reduceLT, reduceEqDiff, Nat.reduceBEq, reduceIte, wd, Chk, and_true, true_and, t0, fa110_0, fa121_0, fa121_1, fa121_2, Nat.zero_add, l6, c6.at ty3 rfl, c6.at ty2 rfl, i64, idx_slice ty108 rfl ty32 hi1])
     refine (set_ok a6 hc hy hyk (hgj.room hy hyk)).mono fun v h5 ⟨a5, f5⟩ => ?_
     have x5 := f5.next
     (try simp (maxSteps := 2000000) only [wk, wl, wx, reduceLT, reduceEqDiff, Nat.reduceBEq, reduceIte, wd, Chk, and_true, true_and])
     ((repeat refine WC.seq ?_); refine WC.run ?_)
     (try simp only [wk, wl, wx, reduceLT, reduceEqDiff, Nat.reduceBEq, reduceIte, t59, bin_add])
     refine ⟨_, ?_, _, j + 1, rfl, ?_, ⟨by omega, fun b hb => by rw [f5.same b ⟨by omega, hb.2⟩, G6.same b (by omega), fq.same b hb]⟩, rfl, by omega, ?_⟩
     ·omega
     ·rw [runT_snoc hjt]; exact a5
     (try simp only [wk, wl, wx, reduceLT, reduceEqDiff, Nat.reduceBEq, reduceIte, t0, t4, t57, t58])
     refine ⟨trivial, trivial, trivial, trivial, ?_⟩
     rw [wrap64 (by omega) (by omega)]; rfl
    ·refine WC.cond (b := false) (by (try simp only [wk, wl, wx, reduceLT, reduceEqDiff, Nat.reduceBEq, reduceIte]); (try simp); (try omega)) (WC.exit ?_)
     have : j = T.length := by omega
     subst this
     (try simp only [wk, wl, wx, reduceLT, reduceEqDiff, Nat.reduceBEq, reduceIte])
     ((repeat refine WC.seq ?_); refine WC.run ?_)
     (try simp only [wk, wl, wx, reduceLT, reduceEqDiff, Nat.reduceBEq, reduceIte, t4, Sl.lenB sTq ty119 rfl])
     refine WC.ret ?_
     (try simp only [wk, wl, wx, reduceLT, reduceEqDiff, Nat.reduceBEq, reduceIte])
     rw [List.take_length] at aq
     refine ⟨by trivial, ?_, ⟨by omega, fun b hb => by rw [fq.same b ⟨by omega, hb.2⟩, fk.same b hb.1]⟩⟩
     rw [← runT_I, hT]; exact aq
   all_goals (try simp only [wk, wl, wx, reduceLT, reduceEqDiff, Nat.reduceBEq, reduceIte, t0, t4])
   all_goals (first | done | rfl | trivial | simp)
 all_goals (try simp only [wk, wl, wx, reduceLT, reduceEqDiff, Nat.reduceBEq, reduceIte])
 all_goals (first | done | rfl | trivial | simp)
end Go.Proofs.OP
