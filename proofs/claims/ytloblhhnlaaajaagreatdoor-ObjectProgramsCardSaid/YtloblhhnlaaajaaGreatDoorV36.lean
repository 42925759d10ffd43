/- Walks: the reference's BindAll. -/
import Derived.Test.YtloblhhnlaaajaaGreatDoorV15
import Derived.Test.YtloblhhnlaaajaaGreatDoorV35
set_option linter.unusedVariables false
set_option linter.unusedSimpArgs false
set_option linter.defProp false
set_option linter.unusedSimpArgs false
namespace Go.Proofs.OP
open Go Go.Ev
open Go.Proofs
open Nat (reduceLT reduceEqDiff)
variable {g : T (List V)}

theorem stepB_todo {xs0 : List ImgD} {i k : Nat} {s : SlotD} (hs : slotAt xs0 i k = some s) : (s.bound = 0 → oneT xs0 i k = [(i, k, (lookP s.name 0 xs0).1)] ∧ ∀ ys, stepB xs0 i k ys = setB ys i k (lookP s.name 0 xs0).1) ∧ (s.bound ≠ 0 → oneT xs0 i k = [] ∧ ∀ ys, stepB xs0 i k ys = ys) := by
 refine ⟨fun hb => ⟨by unfold oneT; rw [hs]; simp only [hb, if_true], fun ys => by unfold stepB; rw [hs]; simp only [hb, if_true]⟩, fun hb => ⟨by unfold oneT; rw [hs]; simp only [hb, if_false], fun ys => by unfold stepB; rw [hs]; simp only [hb, if_false]⟩⟩

set_option maxRecDepth 100000 in
set_option maxHeartbeats 8000000 in
theorem rbindAll_ok {h : H} {lo hi pb sb : Nat} {sc : Cp} {tag : Nat → Nat} {cs : List Ic} {xs : List ImgD} (a : PM g h lo hi pb sb sc tag cs xs) (hx : xs.length < 1000) (hg : Good xs) :
  WF (E g) 30 [.ptr pb 0] h fun v h' => v = .tuple [i64 (bindAllP xs).2.1, i64 (bindAllP xs).2.2] ∧ PM g h' lo hi pb sb sc tag cs (bindAllP xs).1 ∧ Rest lo hi h h' := by
 have hh := a.his
 have l0 : loadP (E g) h 65 (.ptr pb 0) = some (.slice sb 0 xs.length sc) := a.has.at ty65 rfl 0
 refine WF.enter fn30 rfl ?_
 ((repeat refine WC.seq ?_); refine WC.run ?_)
 (try simp only [wk, wl, wx, reduceLT, reduceEqDiff, Nat.reduceBEq, reduceIte])
 ((repeat refine WC.seq ?_); refine WC.run ?_)
 (try simp only [wk, wl, wx, reduceLT, reduceEqDiff, Nat.reduceBEq, reduceIte, fa149_0, Nat.zero_add, l0, Sl.lenB a.sl ty65 rfl])
 (repeat refine WC.seq ?_)
 refine WC.block ?_
 refine WC.while (fun m fr hk => ∃ ts i, fr = ⟨ts, 92, [], 30, none⟩ ∧ Kept h hk ∧ m = xs.length - i ∧ i ≤ xs.length ∧ ts.get 0 = some (.ptr pb 0) ∧ ts.get 22 = some (.slice sb 0 xs.length sc) ∧ ts.get 23 = some (.int .i64 xs.length) ∧ ts.get 24 = some (.int .i64 i) ∧ ∀ j (hj : j < xs.length), j < i → okX xs xs[j] = true) ?_ ⟨_, 0, rfl, Fix.refl _ _, rfl, by omega, ?_, ?_, ?_, ?_, fun j hj hji => absurd hji (Nat.not_lt_zero _)⟩
 ·rintro m fr hk ⟨ts, i, rfl, fk, rfl, hil, t0, t22, t23, t24, hok⟩
  have xk := fk.next
  have ak := a.kept fk
  ((repeat refine WC.seq ?_); refine WC.run ?_)
  (try simp only [wk, wl, wx, reduceLT, reduceEqDiff, Nat.reduceBEq, reduceIte, t23, t24])
  (repeat refine WC.seq ?_)
  by_cases hlt : i < xs.length
  ·refine WC.cond (b := true) (by (try simp only [wk, wl, wx, reduceLT, reduceEqDiff, Nat.reduceBEq, reduceIte]); (try simp); (try omega)) (WC.skip ?_)
   (try simp only [wk, wl, wx, reduceLT, reduceEqDiff, Nat.reduceBEq, reduceIte])
   obtain ⟨c, hc⟩ := ak.ic hlt
   have hxi : xs[i]? = some xs[i] := List.getElem?_eq_getElem hlt
   have mi := ak.im i c xs[i] hc hxi
   have ac := ak.cell hc hxi
   have sm := hg.at hxi
   have ssl := sm.slots
   have lx : loadP (E g) hk 50 (.ptr sb (i * 7)) = some (.agg (c.cells xs[i])) := ac.agg ty50 rfl rfl
   (repeat refine WC.seq ?_)
   refine WC.block ?_
   ((repeat refine WC.seq ?_); refine WC.run ?_)
   (try simp only [wk, wl, wx, reduceLT, reduceEqDiff, Nat.reduceBEq, reduceIte, t22, t24, idx_slice ty65 rfl ty50 hlt, Nat.zero_add, lx])
   refine wop_alloc ty50 ?_
   intro h5 b5 n5 f5
   (try simp only [wk, wl, wx, reduceLT, reduceEqDiff, Nat.reduceBEq, reduceIte])
   refine sat_store b5 ty50 rfl (Nat.le_refl 7) (by simp only [V.cells, Ic.cells, List.all_cons, List.all_nil, (Sl.one mi.im.bytes).2, (Sl.one mi.im.exps).2, (Sl.one mi.im.slots).2, (Sl.one mi.im.needs).2, Bool.and_true]; rfl) ?_
   intro h6 b6 n6 f6
   have b6 : Has h6 hk.next [i64 xs[i].base, c.bytes, i64 xs[i].code, i64 xs[i].entry, c.exps, c.slots, c.needs] := b6
   have F6 : Kept hk h6 := ⟨by omega, fun b hb => by rw [f6.same b (by omega), f5.same b hb]⟩
   have K6 : Kept h h6 := fk.trans (F6.sub fun b hb => by omega)
   have a6 := a.kept K6
   have mi6 := a6.im i c xs[i] hc hxi
   (try simp only [wk, wl, wx, reduceLT, reduceEqDiff, Nat.reduceBEq, reduceIte])
   ((repeat refine WC.seq ?_); refine WC.run ?_)
   (try simp only [wk, wl, wx, reduceLT, reduceEqDiff, Nat.reduceBEq, reduceIte, fa50_5, Nat.zero_add, b6.at ty48 rfl, Sl.lenB mi6.im.slots ty48 rfl])
   (repeat refine WC.seq ?_)
   refine WC.block ?_
   refine WC.while (fun m fr hq => ∃ ts k, fr = ⟨ts, 92, [], 30, none⟩ ∧ Kept h hq ∧ m = xs[i].slots.length - k ∧ k ≤ xs[i].slots.length ∧ ts.get 0 = some (.ptr pb 0) ∧ ts.get 22 = some (.slice sb 0 xs.length sc) ∧ ts.get 23 = some (.int .i64 xs.length) ∧ ts.get 24 = some (.int .i64 i) ∧ ts.get 29 = some c.slots ∧ ts.get 30 = some (.int .i64 xs[i].slots.length) ∧ ts.get 31 = some (.int .i64 k) ∧ ∀ j (hj : j < xs[i].slots.length), j < k → okS xs xs[i].slots[j] = true) ?_ ⟨_, 0, rfl, K6, rfl, by omega, ?_, ?_, ?_, ?_, ?_, ?_, ?_, fun j hj hji => absurd hji (Nat.not_lt_zero _)⟩
   ·rintro m fr hq ⟨ts, k, rfl, fq, rfl, hkl, t0, t22, t23, t24, t29, t30, t31, hoq⟩
    have xq0 := fq.next
    have aq := a.kept fq
    have miq := aq.im i c xs[i] hc hxi
    ((repeat refine WC.seq ?_); refine WC.run ?_)
    (try simp only [wk, wl, wx, reduceLT, reduceEqDiff, Nat.reduceBEq, reduceIte, t30, t31])
    (repeat refine WC.seq ?_)
    by_cases hkt : k < xs[i].slots.length
    ·refine WC.cond (b := true) (by (try simp only [wk, wl, wx, reduceLT, reduceEqDiff, Nat.reduceBEq, reduceIte]); (try simp); (try omega)) (WC.skip ?_)
     (try simp only [wk, wl, wx, reduceLT, reduceEqDiff, Nat.reduceBEq, reduceIte])
     obtain ⟨p, p1, p2⟩ := miq.im.slots.at slotV_length ty48 rfl ty136 rfl (by decide) rfl hkt
     have p2 := p2 hq fun _ _ _ _ _ => rfl
     (repeat refine WC.seq ?_)
     refine WC.block ?_
     ((repeat refine WC.seq ?_); refine WC.run ?_)
     (try simp only [wk, wl, wx, reduceLT, reduceEqDiff, Nat.reduceBEq, reduceIte, t29, t31, p1, p2])
     refine wop_alloc ty136 ?_
     intro k5 c5 m5 g5
     (try simp only [wk, wl, wx, reduceLT, reduceEqDiff, Nat.reduceBEq, reduceIte])
     refine sat_store c5 ty136 rfl (by decide) rfl ?_
     intro k6 c6 m6 g6
     have c6 : Has k6 hq.next [.str xs[i].slots[k].name, i64 xs[i].slots[k].addr, i64 xs[i].slots[k].bound] := c6
     have G6 : Kept hq k6 := ⟨by omega, fun b hb => by rw [g6.same b (by omega), g5.same b hb]⟩
     have L6 : Kept h k6 := fq.trans (G6.sub fun b hb => by omega)
     (try simp only [wk, wl, wx, reduceLT, reduceEqDiff, Nat.reduceBEq, reduceIte])
     ((repeat refine WC.seq ?_); refine WC.run ?_)
     (try simp only [wk, wl, wx, reduceLT, reduceEqDiff, Nat.reduceBEq, reduceIte, t0, fa136_0, Nat.zero_add, c6.at ty9 rfl])
     refine (rlookup_ok (nm := xs[i].slots[k].name) (a.kept L6) (by omega) hg.exps).mono fun v h7 ⟨e7, f7⟩ => ?_
     subst e7
     have x7 := f7.next
     have c7 := c6.fix f7 (by omega)
     have F7 : Kept h h7 := L6.trans (f7.sub fun b hb => by omega)
     have next : okS xs xs[i].slots[k] = true → ∀ j (hj : j < xs[i].slots.length), j < k + 1 → okS xs xs[i].slots[j] = true := fun ho j hj hjk => by
      rcases Nat.lt_succ_iff_lt_or_eq.1 hjk with r | rfl
      ·exact hoq j hj r
      ·exact ho
     (try simp only [wk, wl, wx, reduceLT, reduceEqDiff, Nat.reduceBEq, reduceIte, lookV, i64])
     ((repeat refine WC.seq ?_); refine WC.run ?_)
     cases hb : (xs[i].slots[k].bound == 0) with
     | false =>
      (try simp only [wk, wl, wx, reduceLT, reduceEqDiff, Nat.reduceBEq, reduceIte, fa136_2, Nat.zero_add, c7.at ty2 rfl, i64, hb, un])
      (repeat refine WC.seq ?_)
      refine WC.cond (b := false) (by (try simp only [wk, wl, wx, reduceLT, reduceEqDiff, Nat.reduceBEq, reduceIte]); (try simp); (try omega)) (WC.skip ?_)
      (try simp only [wk, wl, wx, reduceLT, reduceEqDiff, Nat.reduceBEq, reduceIte])
      ((repeat refine WC.seq ?_); refine WC.run ?_)
      (try simp only [wk, wl, wx, reduceLT, reduceEqDiff, Nat.reduceBEq, reduceIte, t31, bin_add])
      refine ⟨_, ?_, _, k + 1, rfl, F7, rfl, by omega, ?_⟩
      ·omega
      (try simp only [wk, wl, wx, reduceLT, reduceEqDiff, Nat.reduceBEq, reduceIte, t0, t22, t23, t24, t29, t30])
      refine ⟨trivial, trivial, trivial, trivial, trivial, trivial, ?_, next (by simp at hb; simp [okS, hb])⟩
      rw [wrap64 (by omega) (by omega)]; rfl
     | true =>
      have hb' : xs[i].slots[k].bound = 0 := by simpa using hb
      (try simp only [wk, wl, wx, reduceLT, reduceEqDiff, Nat.reduceBEq, reduceIte, fa136_2, Nat.zero_add, c7.at ty2 rfl, i64, hb, un])
      (repeat refine WC.seq ?_)
      by_cases hl : (lookP xs[i].slots[k].name 0 xs).2.2 = 0
      ·refine WC.cond (b := false) (by (try simp only [wk, wl, wx, reduceLT, reduceEqDiff, Nat.reduceBEq, reduceIte, hl]); (try simp); (try omega)) (WC.skip ?_)
       (try simp only [wk, wl, wx, reduceLT, reduceEqDiff, Nat.reduceBEq, reduceIte])
       ((repeat refine WC.seq ?_); refine WC.run ?_)
       (try simp only [wk, wl, wx, reduceLT, reduceEqDiff, Nat.reduceBEq, reduceIte, t31, bin_add])
       refine ⟨_, ?_, _, k + 1, rfl, F7, rfl, by omega, ?_⟩
       ·omega
       (try simp only [wk, wl, wx, reduceLT, reduceEqDiff, Nat.reduceBEq, reduceIte, t0, t22, t23, t24, t29, t30])
       refine ⟨trivial, trivial, trivial, trivial, trivial, trivial, ?_, next (by simp only [okS, hl, decide_true, Bool.or_true])⟩
       rw [wrap64 (by omega) (by omega)]; rfl
      ·refine WC.cond (b := true) (by (try simp only [wk, wl, wx, reduceLT, reduceEqDiff, Nat.reduceBEq, reduceIte, hl]); (try simp); (try omega)) ?_
       ((repeat refine WC.seq ?_); refine WC.run ?_)
       (try simp only [wk, wl, wx, reduceLT, reduceEqDiff, Nat.reduceBEq, reduceIte])
       refine WC.ret ?_
       (try simp only [wk, wl, wx, reduceLT, reduceEqDiff, Nat.reduceBEq, reduceIte])
       have hbad : okS xs xs[i].slots[k] = false := by simp [okS, hb', hl]
       have hP : bindAllP xs = (xs, 0, 22) := by
        unfold bindAllP
        rw [okX_false (List.getElem_mem hlt) (List.getElem_mem hkt) hbad]; rfl
       have h22 : (lookP xs[i].slots[k].name 0 xs).2.2 = 22 := by
        rcases lookP_err (nm := xs[i].slots[k].name) (xs := xs) (n := 0) with q | q
        ·exact absurd q hl
        ·exact q
       rw [hP, h22]
       exact ⟨by trivial, a.kept F7, F7.sub fun b hb => hb.1⟩
    ·refine WC.cond (b := false) (by (try simp only [wk, wl, wx, reduceLT, reduceEqDiff, Nat.reduceBEq, reduceIte]); (try simp); (try omega)) (WC.exit ?_)
     have : k = xs[i].slots.length := by omega
     subst this
     (try simp only [wk, wl, wx, reduceLT, reduceEqDiff, Nat.reduceBEq, reduceIte, show Nat.beq 2 2 = true from rfl])
     ((repeat refine WC.seq ?_); refine WC.run ?_)
     (try simp only [wk, wl, wx, reduceLT, reduceEqDiff, Nat.reduceBEq, reduceIte, t24, bin_add])
     refine ⟨_, ?_, _, i + 1, rfl, fq, rfl, by omega, ?_⟩
     ·omega
     (try simp only [wk, wl, wx, reduceLT, reduceEqDiff, Nat.reduceBEq, reduceIte, t0, t22, t23])
     refine ⟨trivial, trivial, trivial, ?_, fun j hj hji => ?_⟩
     ·rw [wrap64 (by omega) (by omega)]; rfl
     ·rcases Nat.lt_succ_iff_lt_or_eq.1 hji with r | rfl
      ·exact hok j hj r
      ·rw [okX, List.all_eq_true]
       intro s hs
       obtain ⟨q, hq, rfl⟩ := List.getElem_of_mem hs
       exact hoq q hq hq
   all_goals (try simp only [wk, wl, wx, reduceLT, reduceEqDiff, Nat.reduceBEq, reduceIte, t0, t22, t23, t24])
   all_goals (first | done | rfl | trivial | simp)
  ·refine WC.cond (b := false) (by (try simp only [wk, wl, wx, reduceLT, reduceEqDiff, Nat.reduceBEq, reduceIte]); (try simp); (try omega)) (WC.exit ?_)
   have : i = xs.length := by omega
   subst this
   (try simp only [wk, wl, wx, reduceLT, reduceEqDiff, Nat.reduceBEq, reduceIte])
   have hall : allOk xs = true := by
    rw [allOk, List.all_eq_true]
    intro x hx
    obtain ⟨q, hq, rfl⟩ := List.getElem_of_mem hx
    exact hok q hq hq
   have hP : bindAllP xs = (bindI xs xs.length, ((todoI xs xs.length).length : Int), 0) := by unfold bindAllP; rw [if_pos hall]
   rw [hP]
   have lk : loadP (E g) hk 65 (.ptr pb 0) = some (.slice sb 0 xs.length sc) := ak.has.at ty65 rfl 0
   ((repeat refine WC.seq ?_); refine WC.run ?_)
   (try simp only [wk, wl, wx, reduceLT, reduceEqDiff, Nat.reduceBEq, reduceIte])
   ((repeat refine WC.seq ?_); refine WC.run ?_)
   (try simp only [wk, wl, wx, reduceLT, reduceEqDiff, Nat.reduceBEq, reduceIte, t0, fa149_0, Nat.zero_add, lk, Sl.lenB ak.sl ty65 rfl])
   (repeat refine WC.seq ?_)
   refine WC.block ?_
   refine WC.while (fun m fr hq => ∃ ts i, fr = ⟨ts, 92, [], 30, none⟩ ∧ PM g hq lo hi pb sb sc tag cs (bindI xs i) ∧ Rest lo hi hk hq ∧ m = xs.length - i ∧ i ≤ xs.length ∧ ts.get 0 = some (.ptr pb 0) ∧ ts.get 11 = some (.int .i64 (todoI xs i).length) ∧ ts.get 56 = some (.slice sb 0 xs.length sc) ∧ ts.get 57 = some (.int .i64 xs.length) ∧ ts.get 58 = some (.int .i64 i)) ?_ ⟨_, 0, rfl, ak, Fix.refl _ _, rfl, by omega, ?_, ?_, ?_, ?_, ?_⟩
   ·rintro m fr hq ⟨ts, i, rfl, aq, fq, rfl, hil, t0, t11, t56, t57, t58⟩
    have xq := fq.next
    have hcnt := count_le xs hg i
    ((repeat refine WC.seq ?_); refine WC.run ?_)
    (try simp only [wk, wl, wx, reduceLT, reduceEqDiff, Nat.reduceBEq, reduceIte, t57, t58])
    (repeat refine WC.seq ?_)
    by_cases hlt : i < xs.length
    ·refine WC.cond (b := true) (by (try simp only [wk, wl, wx, reduceLT, reduceEqDiff, Nat.reduceBEq, reduceIte]); (try simp); (try omega)) (WC.skip ?_)
     (try simp only [wk, wl, wx, reduceLT, reduceEqDiff, Nat.reduceBEq, reduceIte])
     have hxi : xs[i]? = some xs[i] := List.getElem?_eq_getElem hlt
     obtain ⟨y, hy, hys⟩ := shapes_at (bindI_shapes xs i).symm hxi
     have hyl : y.slots.length = xs[i].slots.length := (congrArg Prod.snd hys).symm
     have sm := hg.at hxi
     have ssl := sm.slots
     obtain ⟨hi1, _⟩ := List.getElem?_eq_some_iff.1 hy
     obtain ⟨c, hc⟩ := aq.ic hi1
     have mi := aq.im i c y hc hy
     have ac := aq.cell hc hy
     have lx : loadP (E g) hq 50 (.ptr sb (i * 7)) = some (.agg (c.cells y)) := ac.agg ty50 rfl rfl
     (repeat refine WC.seq ?_)
     refine WC.block ?_
     ((repeat refine WC.seq ?_); refine WC.run ?_)
     (try simp only [wk, wl, wx, reduceLT, reduceEqDiff, Nat.reduceBEq, reduceIte, t56, t58, idx_slice ty65 rfl ty50 hlt, Nat.zero_add, lx])
     refine wop_alloc ty50 ?_
     intro h5 b5 n5 f5
     (try simp only [wk, wl, wx, reduceLT, reduceEqDiff, Nat.reduceBEq, reduceIte])
     refine sat_store b5 ty50 rfl (Nat.le_refl 7) (by simp only [V.cells, Ic.cells, List.all_cons, List.all_nil, (Sl.one mi.im.bytes).2, (Sl.one mi.im.exps).2, (Sl.one mi.im.slots).2, (Sl.one mi.im.needs).2, Bool.and_true]; rfl) ?_
     intro h6 b6 n6 f6
     have b6 : Has h6 hq.next [i64 y.base, c.bytes, i64 y.code, i64 y.entry, c.exps, c.slots, c.needs] := b6
     have F6 : Kept hq h6 := ⟨by omega, fun b hb => by rw [f6.same b (by omega), f5.same b hb]⟩
     have R6 : Rest lo hi hk h6 := ⟨by omega, fun b hb => by rw [F6.same b (by omega), fq.same b hb]⟩
     have a6 := aq.kept F6
     have mi6 := a6.im i c y hc hy
     (try simp only [wk, wl, wx, reduceLT, reduceEqDiff, Nat.reduceBEq, reduceIte])
     ((repeat refine WC.seq ?_); refine WC.run ?_)
     (try simp only [wk, wl, wx, reduceLT, reduceEqDiff, Nat.reduceBEq, reduceIte, fa50_5, Nat.zero_add, b6.at ty48 rfl, Sl.lenB mi6.im.slots ty48 rfl])
     rw [hyl]
     (repeat refine WC.seq ?_)
     refine WC.block ?_
     refine WC.while (fun m fr hr => ∃ ts k, fr = ⟨ts, 92, [], 30, none⟩ ∧ PM g hr lo hi pb sb sc tag cs (bindS xs i k (bindI xs i)) ∧ Rest lo hi hk hr ∧ m = xs[i].slots.length - k ∧ k ≤ xs[i].slots.length ∧ ts.get 0 = some (.ptr pb 0) ∧ ts.get 11 = some (.int .i64 (todoI xs i ++ todoS xs i k).length) ∧ ts.get 12 = some (.int .i64 i) ∧ ts.get 56 = some (.slice sb 0 xs.length sc) ∧ ts.get 57 = some (.int .i64 xs.length) ∧ ts.get 58 = some (.int .i64 i) ∧ ts.get 64 = some c.slots ∧ ts.get 65 = some (.int .i64 xs[i].slots.length) ∧ ts.get 66 = some (.int .i64 k)) ?_ ⟨_, 0, rfl, a6, R6, rfl, by omega, ?_, ?_, ?_, ?_, ?_, ?_, ?_, ?_, ?_⟩
     ·rintro m fr hr ⟨ts, k, rfl, ar, fr', rfl, hkl, t0, t11, t12, t56, t57, t58, t64, t65, t66⟩
      have xr := fr'.next
      have hts := todoS_le xs i k
      ((repeat refine WC.seq ?_); refine WC.run ?_)
      (try simp only [wk, wl, wx, reduceLT, reduceEqDiff, Nat.reduceBEq, reduceIte, t65, t66])
      (repeat refine WC.seq ?_)
      by_cases hkt : k < xs[i].slots.length
      ·refine WC.cond (b := true) (by (try simp only [wk, wl, wx, reduceLT, reduceEqDiff, Nat.reduceBEq, reduceIte]); (try simp); (try omega)) (WC.skip ?_)
       (try simp only [wk, wl, wx, reduceLT, reduceEqDiff, Nat.reduceBEq, reduceIte])
       have hsl := slotAt_of hxi hkt
       have hgk : Good (bindS xs i k (bindI xs i)) := bindS_good hg hall k (bindI_good hg hall i)
       have hshk : shapes (bindS xs i k (bindI xs i)) = shapes xs := by rw [bindS_shapes, bindI_shapes]
       obtain ⟨z, hz, hzs⟩ := shapes_at hshk.symm hxi
       have hzl : z.slots.length = xs[i].slots.length := (congrArg Prod.snd hzs).symm
       have hzk : k < z.slots.length := by omega
       have hzslot : z.slots[k] = xs[i].slots[k] := by
        have q1 := bindS_slot xs (i := i) (j := i) (q := k) k (bindI xs i) (.inr (Nat.le_refl _))
        rw [bindI_slot xs i (Nat.le_refl _), hsl, slotAt_of hz hzk] at q1
        exact Option.some.inj q1
       have hln : (bindS xs i k (bindI xs i)).length = xs.length := shapes_length hshk
       have mir := ar.im i c z hc hz
       obtain ⟨p, p1, p2⟩ := mir.im.slots.at slotV_length ty48 rfl ty136 rfl (by decide) rfl hzk
       have p2 := p2 hr fun _ _ _ _ _ => rfl
       rw [hzslot] at p2
       (repeat refine WC.seq ?_)
       refine WC.block ?_
       ((repeat refine WC.seq ?_); refine WC.run ?_)
       (try simp only [wk, wl, wx, reduceLT, reduceEqDiff, Nat.reduceBEq, reduceIte, t64, t66, p1, p2])
       refine wop_alloc ty136 ?_
       intro k5 c5 m5 g5
       (try simp only [wk, wl, wx, reduceLT, reduceEqDiff, Nat.reduceBEq, reduceIte])
       refine sat_store c5 ty136 rfl (by decide) rfl ?_
       intro k6 c6 m6 g6
       have c6 : Has k6 hr.next [.str xs[i].slots[k].name, i64 xs[i].slots[k].addr, i64 xs[i].slots[k].bound] := c6
       have G6 : Kept hr k6 := ⟨by omega, fun b hb => by rw [g6.same b (by omega), g5.same b hb]⟩
       have R7 : Rest lo hi hk k6 := ⟨by omega, fun b hb => by rw [G6.same b (by omega), fr'.same b hb]⟩
       have ar6 := ar.kept G6
       obtain ⟨st1, st2⟩ := stepB_todo hsl
       (try simp only [wk, wl, wx, reduceLT, reduceEqDiff, Nat.reduceBEq, reduceIte])
       ((repeat refine WC.seq ?_); refine WC.run ?_)
       (try simp only [wk, wl, wx, reduceLT, reduceEqDiff, Nat.reduceBEq, reduceIte, fa136_2, Nat.zero_add, c6.at ty2 rfl, i64])
       (repeat refine WC.seq ?_)
       by_cases hb : xs[i].slots[k].bound = 0
       ·obtain ⟨hone, hstep⟩ := st1 hb
        have hlk := allOk_slot hall hsl
        simp only [okS, hb, bne_self_eq_false, Bool.false_or, decide_eq_true_eq] at hlk
        refine WC.cond (b := true) (by (try simp only [wk, wl, wx, reduceLT, reduceEqDiff, Nat.reduceBEq, reduceIte, hb]); (try simp); (try omega)) ?_
        ((repeat refine WC.seq ?_); refine WC.run ?_)
        (try simp only [wk, wl, wx, reduceLT, reduceEqDiff, Nat.reduceBEq, reduceIte, t0, fa136_0, Nat.zero_add, c6.at ty9 rfl])
        refine (rlookup_ok (nm := xs[i].slots[k].name) ar6 (by omega) hgk.exps).mono fun v h7 ⟨e7, f7⟩ => ?_
        rw [lookP_shapes hshk] at e7
        subst e7
        have x7 := f7.next
        have ar7 := ar6.kept f7
        (try simp only [wk, wl, wx, reduceLT, reduceEqDiff, Nat.reduceBEq, reduceIte, lookV, i64])
        ((repeat refine WC.seq ?_); refine WC.run ?_)
        (try simp only [wk, wl, wx, reduceLT, reduceEqDiff, Nat.reduceBEq, reduceIte, t0, t12, t66])
        have hroom := hgk.room hz hzk
        refine (rbind_ok (ad := (lookP xs[i].slots[k].name 0 xs).1) ar7 hc hz hzk hroom).mono fun v h8 ⟨a8, f8⟩ => ?_
        have x8 := f8.next
        (try simp only [wk, wl, wx, reduceLT, reduceEqDiff, Nat.reduceBEq, reduceIte])
        ((repeat refine WC.seq ?_); refine WC.run ?_)
        (try simp only [wk, wl, wx, reduceLT, reduceEqDiff, Nat.reduceBEq, reduceIte, t11, bin_add])
        ((repeat refine WC.seq ?_); refine WC.run ?_)
        (try simp only [wk, wl, wx, reduceLT, reduceEqDiff, Nat.reduceBEq, reduceIte, t66, bin_add])
        refine ⟨_, ?_, _, k + 1, rfl, ?_, ⟨by omega, fun b hb => by rw [f8.same b ⟨by omega, hb.2⟩, f7.same b (by omega), R7.same b hb]⟩, rfl, by omega, ?_⟩
        ·omega
        ·rw [bindS, hstep]; exact a8
        (try simp only [wk, wl, wx, reduceLT, reduceEqDiff, Nat.reduceBEq, reduceIte, t0, t12, t56, t57, t58, t64, t65])
        refine ⟨trivial, ?_, trivial, trivial, trivial, trivial, trivial, trivial, ?_⟩
        ·rw [todoS, hone, wrap64 (by simp only [List.length_append]; omega) (by simp only [List.length_append]; omega)]
         simp only [List.length_append, List.length_cons, List.length_nil, Option.some.injEq, V.int.injEq, true_and]; omega
        ·rw [wrap64 (by omega) (by omega)]; rfl
       ·obtain ⟨hone, hstep⟩ := st2 hb
        refine WC.cond (b := false) (by (try simp only [wk, wl, wx, reduceLT, reduceEqDiff, Nat.reduceBEq, reduceIte, hb]); (try simp); (try omega)) (WC.skip ?_)
        (try simp only [wk, wl, wx, reduceLT, reduceEqDiff, Nat.reduceBEq, reduceIte])
        ((repeat refine WC.seq ?_); refine WC.run ?_)
        (try simp only [wk, wl, wx, reduceLT, reduceEqDiff, Nat.reduceBEq, reduceIte, t66, bin_add])
        refine ⟨_, ?_, _, k + 1, rfl, ?_, R7, rfl, by omega, ?_⟩
        ·omega
        ·rw [bindS, hstep]; exact ar6
        (try simp only [wk, wl, wx, reduceLT, reduceEqDiff, Nat.reduceBEq, reduceIte, t0, t11, t12, t56, t57, t58, t64, t65])
        refine ⟨trivial, ?_, trivial, trivial, trivial, trivial, trivial, trivial, ?_⟩
        ·rw [todoS, hone, List.append_nil]
        ·rw [wrap64 (by omega) (by omega)]; rfl
      ·refine WC.cond (b := false) (by (try simp only [wk, wl, wx, reduceLT, reduceEqDiff, Nat.reduceBEq, reduceIte]); (try simp); (try omega)) (WC.exit ?_)
       have : k = xs[i].slots.length := by omega
       subst this
       (try simp only [wk, wl, wx, reduceLT, reduceEqDiff, Nat.reduceBEq, reduceIte, show Nat.beq 6 6 = true from rfl])
       ((repeat refine WC.seq ?_); refine WC.run ?_)
       (try simp only [wk, wl, wx, reduceLT, reduceEqDiff, Nat.reduceBEq, reduceIte, t58, bin_add])
       refine ⟨_, ?_, _, i + 1, rfl, ?_, fr', rfl, by omega, ?_⟩
       ·omega
       ·rw [bindI, nslots_of hxi]; exact ar
       (try simp only [wk, wl, wx, reduceLT, reduceEqDiff, Nat.reduceBEq, reduceIte, t0, t11, t56, t57])
       refine ⟨trivial, ?_, trivial, trivial, ?_⟩
       ·rw [todoI, nslots_of hxi]
       ·rw [wrap64 (by omega) (by omega)]; rfl
     all_goals (try simp only [wk, wl, wx, reduceLT, reduceEqDiff, Nat.reduceBEq, reduceIte, t0, t11, t56, t57, t58])
     all_goals (first | done | rfl | trivial | simp [todoS])
    ·refine WC.cond (b := false) (by (try simp only [wk, wl, wx, reduceLT, reduceEqDiff, Nat.reduceBEq, reduceIte]); (try simp); (try omega)) (WC.exit ?_)
     have : i = xs.length := by omega
     subst this
     (try simp only [wk, wl, wx, reduceLT, reduceEqDiff, Nat.reduceBEq, reduceIte])
     ((repeat refine WC.seq ?_); refine WC.run ?_)
     (try simp only [wk, wl, wx, reduceLT, reduceEqDiff, Nat.reduceBEq, reduceIte, t11])
     refine WC.ret ?_
     (try simp only [wk, wl, wx, reduceLT, reduceEqDiff, Nat.reduceBEq, reduceIte])
     exact ⟨by trivial, aq, ⟨by omega, fun b hb => by rw [fq.same b ⟨by omega, hb.2⟩, fk.same b hb.1]⟩⟩
   all_goals (try simp only [wk, wl, wx, reduceLT, reduceEqDiff, Nat.reduceBEq, reduceIte, t0])
   all_goals (first | done | rfl | trivial | simp [todoI])
 all_goals (try simp only [wk, wl, wx, reduceLT, reduceEqDiff, Nat.reduceBEq, reduceIte])
 all_goals (first | done | rfl | trivial | simp)
end Go.Proofs.OP
