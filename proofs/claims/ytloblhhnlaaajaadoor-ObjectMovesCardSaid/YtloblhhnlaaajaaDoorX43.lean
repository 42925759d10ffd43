/- Walks: the law of moves. -/
import Derived.Test.YtloblhhnlaaajaaDoorX15
import Derived.Test.YtloblhhnlaaajaaDoorX42
import Derived.Test.YtloblhhnlaaajaaDoorX24
set_option linter.unusedVariables false
set_option linter.unusedSimpArgs false
set_option linter.defProp false
set_option linter.unusedSimpArgs false
namespace Go.Proofs.OP
open Go Go.Ev
open Go.Proofs
open Nat (reduceLT reduceEqDiff)
variable {g : T (List V)}

theorem WPlan_cutL {E : Env} {ops : List Oper} {pl : List Stp} {rd : List (Nat × V)} {nt fn : Nat} {mks : List D} {rnd : Option Nat} {h : H} {Q : Fr → H → Prop} {ts : T V} (L : List (Nat × V)) (hL : ∀ p ∈ L, ts.get p.1 = some p.2)
  (k : ∀ ts2 : T V, (∀ p ∈ L, ts2.get p.1 = some p.2) → WPlan E ops pl rd ⟨ts2, nt, mks, fn, rnd⟩ h Q) : WPlan E ops pl rd ⟨ts, nt, mks, fn, rnd⟩ h Q := k ts hL
theorem bne_bb {h : H} {c : Bool} {b : Bool} : binV (E g) h c .neq 4 (.bool b) (.bool b) = some (.bool false) := by
 cases b <;> simp [binV, eqV, ty4]
theorem base_ok {p : Int} (h0 : 0 ≤ p) (h1 : p < 65536) : Bas (p * 16 + 16) ∧ 16 ≤ p * 16 + 16 := by
 refine ⟨⟨by omega, by omega, ?_⟩, by omega⟩
 rw [Int.tmod_eq_emod_of_nonneg (by omega)]
 omega
theorem conv_u16 {h : H} {p : Int} (h0 : 0 ≤ p) (h1 : p < 65536) : convV (E g) h 23 2 (.int .u16 p) = some (.int .i64 p, h) := by
 rw [conv_int ty23 ty2 rfl, wrap64 (by omega) (by omega)]

set_option maxRecDepth 100000 in
set_option maxHeartbeats 32000000 in
theorem moves_ok {h : H} {ls : V} {L : List (Oc × ObjD)} {p q : Int} (hg : g.get 0 = some flagsV) (a : Obs g h (· < h.next) ls L) (r : ∀ x ∈ L, Room x.2) (lL : L.length < 2 ^ 62) (hp0 : 0 ≤ p) (hp1 : p < 65536) (hq0 : 0 ≤ q) (hq1 : q < 65536) :
  WF (E g) 3 [ls, .agg [.int .u16 p, .int .u16 q]] h fun v _ => v = .bool true := by
 refine WF.enter fn3 rfl ?_
 ((repeat refine WC.seq ?_); refine WC.run ?_)
 (try simp only [wk, wl, wx, reduceLT, reduceEqDiff, Nat.reduceBEq, reduceIte])
 refine wop_box (v := .agg [.int .u16 p, .int .u16 q]) (by (try simp only [wk, wl, wx, reduceLT, reduceEqDiff, Nat.reduceBEq, reduceIte])) ?_
 intro h1 b1 n1 f1
 have b1 : Has h1 h.next [.int .u16 p, .int .u16 q] := b1
 (try simp only [wk, wl, wx, reduceLT, reduceEqDiff, Nat.reduceBEq, reduceIte])
 have a1 := a.fix f1 fun b hb => hb
 ((repeat refine WC.seq ?_); refine WC.run ?_)
 (try simp only [wk, wl, wx, reduceLT, reduceEqDiff, Nat.reduceBEq, reduceIte])
 refine (fewAll_ok (a1.up fun b hb => by omega) r lL).mono fun v h2 ⟨e2, f2⟩ => ?_
 subst e2
 have x2 := f2.next
 have a2 := a1.fix f2 fun b hb => by omega
 have b2 := b1.fix f2 (by omega)
 (try simp only [wk, wl, wx, reduceLT, reduceEqDiff, Nat.reduceBEq, reduceIte, un_not])
 (repeat refine WC.seq ?_)
 cases hf : fewAllP L with
 | false =>
  refine WC.cond (b := true) (by (try simp only [wk, wl, wx, reduceLT, reduceEqDiff, Nat.reduceBEq, reduceIte, hf]); (try simp); (try omega)) ?_
  (try simp only [wk, wl, wx, reduceLT, reduceEqDiff, Nat.reduceBEq, reduceIte])
  ((repeat refine WC.seq ?_); refine WC.run ?_)
  (try simp only [wk, wl, wx, reduceLT, reduceEqDiff, Nat.reduceBEq, reduceIte])
  refine awake_ok ?_
  (try simp only [wk, wl, wx, reduceLT, reduceEqDiff, Nat.reduceBEq, reduceIte])
  refine WC.ret ?_
  (try simp only [wk, wl, wx, reduceLT, reduceEqDiff, Nat.reduceBEq, reduceIte])
 | true =>
 refine WC.cond (b := false) (by (try simp only [wk, wl, wx, reduceLT, reduceEqDiff, Nat.reduceBEq, reduceIte, hf]); (try simp); (try omega)) (WC.skip ?_)
 (try simp only [wk, wl, wx, reduceLT, reduceEqDiff, Nat.reduceBEq, reduceIte])
 have hfew := hf
 simp only [fewAllP, Bool.and_eq_true, List.all_eq_true, decide_eq_true_eq] at hfew
 obtain ⟨hf1, hf2⟩ := hfew
 have fits : ∀ x ∈ L, Fits x.2 := fun x hx => few_fits (hf1 x hx)
 obtain ⟨basP, p16⟩ := base_ok hp0 hp1
 obtain ⟨basQ, q16⟩ := base_ok hq0 hq1
 have tw : Two (p * 16 + 16) (q * 16 + 16) := ⟨basP, basQ, p16, q16⟩
 have i0 : indexAddrV (E g) 24 (.ptr h.next 0) (.int .i64 0) = some (.ptr h.next 0) := by have := idx_arr (g := g) (b := h.next) (o := 0) (k := 0) (ik := .i64) ty24 rfl ty23 (by decide); simpa using this
 have i1 : indexAddrV (E g) 24 (.ptr h.next 0) (.int .i64 1) = some (.ptr h.next 1) := by have := idx_arr (g := g) (b := h.next) (o := 0) (k := 1) (ik := .i64) ty24 rfl ty23 (by decide); simpa using this
 have wp1 : IntKind.i64.wrap (p * 16) = p * 16 := wrap64 (by omega) (by omega)
 have wp2 : IntKind.i64.wrap (p * 16 + 16) = p * 16 + 16 := wrap64 (by omega) (by omega)
 have wq1 : IntKind.i64.wrap (q * 16) = q * 16 := wrap64 (by omega) (by omega)
 have wq2 : IntKind.i64.wrap (q * 16 + 16) = q * 16 + 16 := wrap64 (by omega) (by omega)
 ((repeat refine WC.seq ?_); refine WC.draw (plans := pl3_3) (by kernel_rfl) ?_; simp only [pl3_3, List.mem_cons, List.not_mem_nil, or_false, forall_eq_or_imp, forall_eq])
 (try simp (maxSteps := 2000000) only [wk, wl, wx, reduceLT, reduceEqDiff, Nat.reduceBEq, reduceIte, wd, Chk, and_true, true_and, i0, i1, b2.at ty23 rfl, conv_u16 hp0 hp1, conv_u16 hq0 hq1, bin_mul, bin_add, wp1, wp2, wq1, wq2])
 have hB1 : p * 16 + 16 ≤ 2 ^ 21 := by omega
 have hB2 : q * 16 + 16 ≤ 2 ^ 21 := by omega
 generalize hbm : p * 16 + 16 = m at *
 generalize hbn : q * 16 + 16 = n at *
 -- the first link
 ((repeat refine WC.seq ?_); refine WC.run ?_)
 (try simp only [wk, wl, wx, reduceLT, reduceEqDiff, Nat.reduceBEq, reduceIte])
 refine (all_ok (K := (· < h.next)) (fun b hb => by omega) a2 fits (by omega)).mono fun v h3 ⟨A, eA, oA, wA, f3⟩ => ?_
 have x3 := f3.next
 (try simp only [wk, wl, wx, reduceLT, reduceEqDiff, Nat.reduceBEq, reduceIte])
 have fitA : ∀ x ∈ A, Fits x.2 := fun x hx => by
  have : x.2 ∈ L.map (·.2) := by rw [← eA]; exact List.mem_map.2 ⟨x, hx, rfl⟩
  obtain ⟨y, hy, e⟩ := List.mem_map.1 this
  rw [← e]; exact fits y hy
 have lenA : A.length = L.length := by simpa using congrArg List.length eA
 refine (link_ok (base := m) (oA.up fun b hb => by omega) wA hg fitA (by omega)).mono fun v h4 ⟨f4, q4⟩ => ?_
 rw [eA] at q4
 have x4 := f4.next
 have a4 := (a2.fix f3 fun b hb => by omega).fix f4 fun b hb => by omega
 rcases link_moves tw (L.map (·.2)) with ⟨f, e1, e2, hf2⟩ | ⟨x, y, e1, e2, mv⟩
 ·rw [e1] at q4
  simp only at q4
  subst q4
  (try simp only [wk, wl, wx, reduceLT, reduceEqDiff, Nat.reduceBEq, reduceIte])
  refine wop_alloc ty32 ?_
  intro h5 b5 n5 f5
  (try simp only [wk, wl, wx, reduceLT, reduceEqDiff, Nat.reduceBEq, reduceIte])
  refine wop_alloc ty35 ?_
  intro h6 b6 n6 f6
  (try simp only [wk, wl, wx, reduceLT, reduceEqDiff, Nat.reduceBEq, reduceIte])
  refine sat_store (b5.fix f6 (by omega)) ty32 rfl (Nat.le_refl 7) rfl ?_
  intro h7 b7 n7 f7
  (try simp only [wk, wl, wx, reduceLT, reduceEqDiff, Nat.reduceBEq, reduceIte])
  refine sat_store (b6.fix f7 (by omega)) ty35 rfl (Nat.le_refl 2) (fault_one _) ?_
  intro h8 b8 n8 f8
  have b8 : Has h8 h5.next (faultV f) := b8
  have F8 : Kept h4 h8 := ⟨by omega, fun b hb => by rw [f8.same b (by omega), f7.same b (by omega), f6.same b (by omega), f5.same b hb]⟩
  have a8 := a4.fix F8 fun b hb => by omega
  (try simp only [wk, wl, wx, reduceLT, reduceEqDiff, Nat.reduceBEq, reduceIte])
  ((repeat refine WC.seq ?_); refine WC.run ?_)
  (try simp only [wk, wl, wx, reduceLT, reduceEqDiff, Nat.reduceBEq, reduceIte])
  refine (all_ok (K := (· < h.next)) (fun b hb => by omega) a8 fits (by omega)).mono fun v h9 ⟨A2, eA2, oA2, wA2, f9⟩ => ?_
  have x9 := f9.next
  (try simp only [wk, wl, wx, reduceLT, reduceEqDiff, Nat.reduceBEq, reduceIte])
  have fitA2 : ∀ x ∈ A2, Fits x.2 := fun x hx => by
   have : x.2 ∈ L.map (·.2) := by rw [← eA2]; exact List.mem_map.2 ⟨x, hx, rfl⟩
   obtain ⟨y, hy, e⟩ := List.mem_map.1 this
   rw [← e]; exact fits y hy
  have lenA2 : A2.length = L.length := by simpa using congrArg List.length eA2
  refine (link_ok (base := n) (oA2.up fun b hb => by omega) wA2 hg fitA2 (by omega)).mono fun v h10 ⟨f10, q10⟩ => ?_
  rw [eA2, e2] at q10
  simp only at q10
  subst q10
  have x10 := f10.next
  (try simp only [wk, wl, wx, reduceLT, reduceEqDiff, Nat.reduceBEq, reduceIte])
  refine wop_alloc ty32 ?_
  intro h11 b11 n11 f11
  (try simp only [wk, wl, wx, reduceLT, reduceEqDiff, Nat.reduceBEq, reduceIte])
  refine wop_alloc ty35 ?_
  intro h12 b12 n12 f12
  (try simp only [wk, wl, wx, reduceLT, reduceEqDiff, Nat.reduceBEq, reduceIte])
  refine sat_store (b11.fix f12 (by omega)) ty32 rfl (Nat.le_refl 7) rfl ?_
  intro h13 b13 n13 f13
  (try simp only [wk, wl, wx, reduceLT, reduceEqDiff, Nat.reduceBEq, reduceIte])
  refine sat_store (b12.fix f13 (by omega)) ty35 rfl (Nat.le_refl 2) (fault_one _) ?_
  intro h14 b14 n14 f14
  have b14 : Has h14 h11.next (faultV f) := b14
  have F14 : Kept h8 h14 := ⟨by omega, fun b hb => by rw [f14.same b (by omega), f13.same b (by omega), f12.same b (by omega), f11.same b (by omega), f10.same b (by omega), f9.same b hb]⟩
  have b8' := b8.fix F14 (by omega)
  have l1 : loadP (E g) h14 35 (.ptr h5.next 0) = some (.agg (faultV f)) := b8'.agg ty35 rfl (Nat.le_refl 2)
  have l2 : loadP (E g) h14 35 (.ptr h11.next 0) = some (.agg (faultV f)) := b14.agg ty35 rfl (Nat.le_refl 2)
  have l3 : loadP (E g) h14 33 (.ptr h5.next 1) = some (i64 f.2) := b8'.at ty33 rfl 1
  (try simp only [wk, wl, wx, reduceLT, reduceEqDiff, Nat.reduceBEq, reduceIte])
  ((repeat refine WC.seq ?_); refine WC.run ?_)
  (try simp only [wk, wl, wx, reduceLT, reduceEqDiff, Nat.reduceBEq, reduceIte, l1, l2, neq73])
  (repeat refine WC.seq ?_)
  refine WC.cond (b := false) (by (try simp only [wk, wl, wx, reduceLT, reduceEqDiff, Nat.reduceBEq, reduceIte]); (try simp); (try omega)) (WC.skip ?_)
  (try simp only [wk, wl, wx, reduceLT, reduceEqDiff, Nat.reduceBEq, reduceIte])
  ((repeat refine WC.seq ?_); refine WC.run ?_)
  (try simp only [wk, wl, wx, reduceLT, reduceEqDiff, Nat.reduceBEq, reduceIte, fa35_1, Nat.zero_add, l3, i64, bin_neq, ine_t hf2])
  (repeat refine WC.seq ?_)
  refine WC.cond (b := true) (by (try simp only [wk, wl, wx, reduceLT, reduceEqDiff, Nat.reduceBEq, reduceIte]); (try simp); (try omega)) ?_
  (try simp only [wk, wl, wx, reduceLT, reduceEqDiff, Nat.reduceBEq, reduceIte])
  ((repeat refine WC.seq ?_); refine WC.run ?_)
  (try simp only [wk, wl, wx, reduceLT, reduceEqDiff, Nat.reduceBEq, reduceIte])
  refine awake_ok ?_
  (try simp only [wk, wl, wx, reduceLT, reduceEqDiff, Nat.reduceBEq, reduceIte])
  refine WC.ret ?_
  (try simp only [wk, wl, wx, reduceLT, reduceEqDiff, Nat.reduceBEq, reduceIte])
 ·rw [e1] at q4
  obtain ⟨c, q4, imx⟩ := q4
  subst q4
  (try simp only [wk, wl, wx, reduceLT, reduceEqDiff, Nat.reduceBEq, reduceIte])
  refine wop_alloc ty32 ?_
  intro h5 b5 n5 f5
  (try simp only [wk, wl, wx, reduceLT, reduceEqDiff, Nat.reduceBEq, reduceIte])
  refine wop_alloc ty35 ?_
  intro h6 b6 n6 f6
  (try simp only [wk, wl, wx, reduceLT, reduceEqDiff, Nat.reduceBEq, reduceIte])
  refine sat_store (b5.fix f6 (by omega)) ty32 rfl (Nat.le_refl 7) (Ic.one imx) ?_
  intro h7 b7 n7 f7
  have b7 : Has h7 h4.next (c.cells x) := b7
  (try simp only [wk, wl, wx, reduceLT, reduceEqDiff, Nat.reduceBEq, reduceIte])
  refine sat_store (b6.fix f7 (by omega)) ty35 rfl (Nat.le_refl 2) (fault_one _) ?_
  intro h8 b8 n8 f8
  have b8 : Has h8 h5.next (faultV (0, 0)) := b8
  have b7 := b7.fix f8 (by omega)
  have F8 : Kept h4 h8 := ⟨by omega, fun b hb => by rw [f8.same b (by omega), f7.same b (by omega), f6.same b (by omega), f5.same b hb]⟩
  have a8 := a4.fix F8 fun b hb => by omega
  have imx8 := imx.fix F8 fun b hb => by omega
  (try simp only [wk, wl, wx, reduceLT, reduceEqDiff, Nat.reduceBEq, reduceIte])
  ((repeat refine WC.seq ?_); refine WC.run ?_)
  (try simp only [wk, wl, wx, reduceLT, reduceEqDiff, Nat.reduceBEq, reduceIte])
  refine (all_ok (K := (· < h.next)) (fun b hb => by omega) a8 fits (by omega)).mono fun v h9 ⟨A2, eA2, oA2, wA2, f9⟩ => ?_
  have x9 := f9.next
  (try simp only [wk, wl, wx, reduceLT, reduceEqDiff, Nat.reduceBEq, reduceIte])
  have fitA2 : ∀ x ∈ A2, Fits x.2 := fun x hx => by
   have : x.2 ∈ L.map (·.2) := by rw [← eA2]; exact List.mem_map.2 ⟨x, hx, rfl⟩
   obtain ⟨y, hy, e⟩ := List.mem_map.1 this
   rw [← e]; exact fits y hy
  have lenA2 : A2.length = L.length := by simpa using congrArg List.length eA2
  refine (link_ok (base := n) (oA2.up fun b hb => by omega) wA2 hg fitA2 (by omega)).mono fun v h10 ⟨f10, q10⟩ => ?_
  rw [eA2, e2] at q10
  obtain ⟨d, q10, imy⟩ := q10
  subst q10
  have x10 := f10.next
  (try simp only [wk, wl, wx, reduceLT, reduceEqDiff, Nat.reduceBEq, reduceIte])
  refine wop_alloc ty32 ?_
  intro h11 b11 n11 f11
  (try simp only [wk, wl, wx, reduceLT, reduceEqDiff, Nat.reduceBEq, reduceIte])
  refine wop_alloc ty35 ?_
  intro h12 b12 n12 f12
  (try simp only [wk, wl, wx, reduceLT, reduceEqDiff, Nat.reduceBEq, reduceIte])
  refine sat_store (b11.fix f12 (by omega)) ty32 rfl (Nat.le_refl 7) (Ic.one imy) ?_
  intro h13 b13 n13 f13
  have b13 : Has h13 h10.next (d.cells y) := b13
  (try simp only [wk, wl, wx, reduceLT, reduceEqDiff, Nat.reduceBEq, reduceIte])
  refine sat_store (b12.fix f13 (by omega)) ty35 rfl (Nat.le_refl 2) (fault_one _) ?_
  intro h14 b14 n14 f14
  have b14 : Has h14 h11.next (faultV (0, 0)) := b14
  have F14 : Kept h8 h14 := ⟨by omega, fun b hb => by rw [f14.same b (by omega), f13.same b (by omega), f12.same b (by omega), f11.same b (by omega), f10.same b (by omega), f9.same b hb]⟩
  have Fy : Kept h10 h14 := ⟨by omega, fun b hb => by rw [f14.same b (by omega), f13.same b (by omega), f12.same b (by omega), f11.same b hb]⟩
  have b8' := b8.fix F14 (by omega)
  have bx : Has h14 h4.next [i64 x.base, c.bytes, i64 x.code, i64 x.entry, c.exps, c.slots, c.needs] := b7.fix F14 (by omega)
  have by' : Has h14 h10.next [i64 y.base, d.bytes, i64 y.code, i64 y.entry, d.exps, d.slots, d.needs] := b13.fix f14 (by omega)
  have ix := (imx8.fix F14 fun b hb => by omega).up (K' := (· < h14.next)) fun b hb => by omega
  have iy := (imy.fix Fy fun b hb => by omega).up (K' := (· < h14.next)) fun b hb => by omega
  have l1 : loadP (E g) h14 35 (.ptr h5.next 0) = some (.agg (faultV (0, 0))) := b8'.agg ty35 rfl (Nat.le_refl 2)
  have l2 : loadP (E g) h14 35 (.ptr h11.next 0) = some (.agg (faultV (0, 0))) := b14.agg ty35 rfl (Nat.le_refl 2)
  have l3 : loadP (E g) h14 33 (.ptr h5.next 1) = some (i64 0) := b8'.at ty33 rfl 1
  obtain ⟨xb, hxb⟩ : ∃ xb, h4.next = xb := ⟨_, rfl⟩
  obtain ⟨yb, hyb⟩ : ∃ yb, h10.next = yb := ⟨_, rfl⟩
  have hxl : xb < h14.next := by omega
  have hyl : yb < h14.next := by omega
  (try simp only [wk, wl, wx, reduceLT, reduceEqDiff, Nat.reduceBEq, reduceIte])
  ((repeat refine WC.seq ?_); refine WC.run ?_)
  (try simp only [wk, wl, wx, reduceLT, reduceEqDiff, Nat.reduceBEq, reduceIte, l1, l2, neq73])
  (repeat refine WC.seq ?_)
  refine WC.cond (b := false) (by (try simp only [wk, wl, wx, reduceLT, reduceEqDiff, Nat.reduceBEq, reduceIte]); (try simp); (try omega)) (WC.skip ?_)
  (try simp only [wk, wl, wx, reduceLT, reduceEqDiff, Nat.reduceBEq, reduceIte])
  ((repeat refine WC.seq ?_); refine WC.run ?_)
  (try simp only [wk, wl, wx, reduceLT, reduceEqDiff, Nat.reduceBEq, reduceIte, fa35_1, Nat.zero_add, l3, i64, bin_neq, ine_f (rfl : (0 : Int) = 0)])
  (repeat refine WC.seq ?_)
  refine WC.cond (b := false) (by (try simp only [wk, wl, wx, reduceLT, reduceEqDiff, Nat.reduceBEq, reduceIte]); (try simp); (try omega)) (WC.skip ?_)
  (try simp only [wk, wl, wx, reduceLT, reduceEqDiff, Nat.reduceBEq, reduceIte])
  rw [hxb] at bx
  rw [hyb] at by'
  rw [hxb, hyb]
  have mc := mv.code
  have mB := mv.bytes
  have mE := mv.nexp
  have mS := mv.nslot
  have lE := mv.lexp
  have lS := mv.lslot
  have sz := mv.size
  obtain ⟨en1, en2, en3, en4⟩ := mv.entB
  have lbx := Sl.lenB ix.bytes ty27 rfl h14
  have lby := Sl.lenB iy.bytes ty27 rfl h14
  have lex := Sl.lenB ix.exps ty28 rfl h14
  have ley := Sl.lenB iy.exps ty28 rfl h14
  have lsx := Sl.lenB ix.slots ty29 rfl h14
  have lsy := Sl.lenB iy.slots ty29 rfl h14
  have wE1 : IntKind.i64.wrap (x.entry - m) = x.entry - m := wrap64 (by omega) (by omega)
  have wE2 : IntKind.i64.wrap (y.entry - n) = y.entry - n := wrap64 (by omega) (by omega)
  have z1 : ((x.bytes.length : Nat) : Int) = y.bytes.length := by omega
  have z2 : ((x.exps.length : Nat) : Int) = y.exps.length := by omega
  have z3 : ((x.slots.length : Nat) : Int) = y.slots.length := by omega
  (repeat refine WC.seq ?_)
  refine WC.mono (Q := fun e fr hq => e = .normal ∧ hq = h14 ∧ ∃ ts, fr = ⟨ts, 214, [], 3, none⟩ ∧ ts.get 97 = some (.bool false) ∧ ts.get 5 = some (.int .i64 m) ∧ ts.get 6 = some (.int .i64 n) ∧ ts.get 7 = some (.ptr xb 0) ∧ ts.get 9 = some (.ptr yb 0)) ?_ ?_
  ·refine WC.run ?_
   by_cases hen : x.entry = 0
   ·(try simp only [wk, wl, wx, reduceLT, reduceEqDiff, Nat.reduceBEq, reduceIte, fa32_1, fa32_2, fa32_3, fa32_4, fa32_5, Nat.zero_add, bx.at ty2 rfl, bx.at ty27 rfl, bx.at ty28 rfl, bx.at ty29 rfl, by'.at ty2 rfl, by'.at ty27 rfl, by'.at ty28 rfl, by'.at ty29 rfl, i64, bin_neq, ine_f mc, lbx, lby, lex, ley, lsx, lsy, ine_f z1, ine_f z2, ine_f z3, ine_f hen, un])
    refine ⟨by trivial, by trivial, _, rfl, ?_, ?_, ?_, ?_, ?_⟩
    all_goals (try simp only [wk, wl, wx, reduceLT, reduceEqDiff, Nat.reduceBEq, reduceIte])
   ·have hee : x.entry - m = y.entry - n := by
     rcases mv.entry with q | q
     ·exact absurd q hen
     ·exact q
    (try simp only [wk, wl, wx, reduceLT, reduceEqDiff, Nat.reduceBEq, reduceIte, fa32_1, fa32_2, fa32_3, fa32_4, fa32_5, Nat.zero_add, bx.at ty2 rfl, bx.at ty27 rfl, bx.at ty28 rfl, bx.at ty29 rfl, by'.at ty2 rfl, by'.at ty27 rfl, by'.at ty28 rfl, by'.at ty29 rfl, i64, bin_neq, ine_f mc, lbx, lby, lex, ley, lsx, lsy, ine_f z1, ine_f z2, ine_f z3, ine_t hen, un, bin_sub, wE1, wE2, ine_f hee])
    refine ⟨by trivial, by trivial, _, rfl, ?_, ?_, ?_, ?_, ?_⟩
    all_goals (try simp only [wk, wl, wx, reduceLT, reduceEqDiff, Nat.reduceBEq, reduceIte])
  rintro e fr hq ⟨rfl, rfl, ts, rfl, t97, t5, t6, t7, t9⟩
  (try simp only [wk, wl, wx, reduceLT, reduceEqDiff, Nat.reduceBEq, reduceIte])
  (repeat refine WC.seq ?_)
  refine WC.cond (b := false) (by (try simp only [wk, wl, wx, reduceLT, reduceEqDiff, Nat.reduceBEq, reduceIte, t97]); (try simp); (try omega)) (WC.skip ?_)
  (try simp only [wk, wl, wx, reduceLT, reduceEqDiff, Nat.reduceBEq, reduceIte])
  ((repeat refine WC.seq ?_); refine WC.run ?_)
  (try simp only [wk, wl, wx, reduceLT, reduceEqDiff, Nat.reduceBEq, reduceIte, t7, fa32_4, Nat.zero_add, bx.at ty28 rfl, lex])
  (repeat refine WC.seq ?_)
  refine WC.block ?_
  refine WC.while (fun mm fr hj => ∃ ts j, fr = ⟨ts, 214, [], 3, none⟩ ∧ Kept hq hj ∧ mm = x.exps.length - j ∧ j ≤ x.exps.length ∧ ts.get 5 = some (.int .i64 m) ∧ ts.get 6 = some (.int .i64 n) ∧ ts.get 7 = some (.ptr xb 0) ∧ ts.get 9 = some (.ptr yb 0) ∧ ts.get 99 = some c.exps ∧ ts.get 100 = some (.int .i64 x.exps.length) ∧ ts.get 101 = some (.int .i64 j)) ?_ ⟨_, 0, rfl, Fix.refl _ _, rfl, by omega, ?_, ?_, ?_, ?_, ?_, ?_, ?_⟩
  ·rintro mm fr hj ⟨ts, j, rfl, fj, rfl, hjl, t5, t6, t7, t9, t99, t100, t101⟩
   have xj := fj.next
   have ixj := ix.fix fj fun b hb => hb
   have iyj := iy.fix fj fun b hb => hb
   have bxj := bx.fix fj hxl
   have byj := by'.fix fj hyl
   ((repeat refine WC.seq ?_); refine WC.run ?_)
   (try simp only [wk, wl, wx, reduceLT, reduceEqDiff, Nat.reduceBEq, reduceIte, t100, t101])
   (repeat refine WC.seq ?_)
   by_cases hlj : j < x.exps.length
   ·refine WC.cond (b := true) (by (try simp only [wk, wl, wx, reduceLT, reduceEqDiff, Nat.reduceBEq, reduceIte]); (try simp); (try omega)) (WC.skip ?_)
    (try simp only [wk, wl, wx, reduceLT, reduceEqDiff, Nat.reduceBEq, reduceIte])
    obtain ⟨k1, k2, k3, k4⟩ := mv.exps j hlj (by omega)
    obtain ⟨pp, p1, p2⟩ := ixj.exps.at expV_length ty28 rfl ty41 rfl (by decide) rfl hlj
    have p2 := p2 hj fun _ _ _ _ _ => rfl
    obtain ⟨mk, o, s1, s2, s3⟩ := iyj.exps.spot expV_length ty28 rfl ty41 rfl (by decide) (show j < y.exps.length by omega)
    generalize x.exps[j] = X at p2 k1 k2 k3 k4
    generalize y.exps[j]'(by omega) = Y at s3 k1 k2
    (repeat refine WC.seq ?_)
    refine WC.block ?_
    ((repeat refine WC.seq ?_); refine WC.run ?_)
    (try simp only [wk, wl, wx, reduceLT, reduceEqDiff, Nat.reduceBEq, reduceIte, t99, t101, p1, p2])
    refine wop_alloc ty41 ?_
    intro h15 b15 n15 f15
    (try simp only [wk, wl, wx, reduceLT, reduceEqDiff, Nat.reduceBEq, reduceIte])
    refine sat_store b15 ty41 rfl (Nat.le_refl 2) (expV_one X) ?_
    intro h16 b16 n16 f16
    have b16 : Has h16 hj.next [.str X.name, i64 X.addr] := b16
    have F16 : Kept hj h16 := ⟨by omega, fun b hb => by rw [f16.same b (by omega), f15.same b hb]⟩
    have bx16 := bxj.fix F16 (by omega)
    have by16 := byj.fix F16 (by omega)
    have s3 := s3 h16 fun b o m c e => F16.same b (by have := iyj.inX _ _ _ _ e; omega)
    have sN := s3 0 (by decide) 9 _ ty9 rfl
    have sA := s3 1 (by decide) 2 _ ty2 rfl
    simp only [Nat.add_zero] at sN
    have sN : loadP (E g) h16 9 (mk o) = some (.str Y.name) := sN
    have sA : loadP (E g) h16 2 (mk (o + 1)) = some (i64 Y.addr) := sA
    have fN : fieldAddrV (E g) 41 (mk o) 0 = some (mk o) := by
     rcases s1 with ⟨bb, hb⟩ | ⟨bb, hb⟩
     ·rw [hb]; exact fa41_0
     ·rw [hb]; exact fg41_0
    have fA : fieldAddrV (E g) 41 (mk o) 1 = some (mk (o + 1)) := by
     rcases s1 with ⟨bb, hb⟩ | ⟨bb, hb⟩
     ·rw [hb, hb]; exact fa41_1
     ·rw [hb, hb]; exact fg41_1
    have wX : IntKind.i64.wrap (X.addr - m) = X.addr - m := wrap64 (by omega) (by omega)
    have wY : IntKind.i64.wrap (Y.addr - n) = Y.addr - n := wrap64 (by omega) (by omega)
    have wZ : IntKind.i64.wrap (m + (x.bytes.length : Nat)) = m + (x.bytes.length : Nat) := wrap64 (by omega) (by omega)
    have lb16 := Sl.lenB ix.bytes ty27 rfl h16
    (try simp only [wk, wl, wx, reduceLT, reduceEqDiff, Nat.reduceBEq, reduceIte])
    ((repeat refine WC.seq ?_); refine WC.draw (plans := pl3_15) (by kernel_rfl) ?_; simp only [pl3_15, List.mem_cons, List.not_mem_nil, or_false, forall_eq_or_imp, forall_eq])
    refine WPlan_cutL [(5, .int .i64 m), (6, .int .i64 n), (7, .ptr xb 0), (9, .ptr yb 0), (11, .int .i64 j), (12, .ptr hj.next 0), (99, c.exps), (100, .int .i64 x.exps.length), (101, .int .i64 j)] ?_ ?_
    ·simp only [List.mem_cons, List.not_mem_nil, or_false, forall_eq_or_imp, forall_eq]
     (try simp only [wk, wl, wx, reduceLT, reduceEqDiff, Nat.reduceBEq, reduceIte, t5, t6, t7, t9, t99, t100, t101])
     (first | done | trivial | exact ⟨by trivial, by trivial, by trivial, by trivial, by trivial, by trivial, by trivial, by trivial, by trivial⟩)
    clear t5 t6 t7 t9 t99 t100 t101
    intro ts hts
    simp only [List.mem_cons, List.not_mem_nil, or_false, forall_eq_or_imp, forall_eq] at hts
    obtain ⟨t5, t6, t7, t9, t11, t12, t99, t100, t101⟩ := hts
    refine WPlan_two 10 (M := fun fr hM => hM = h16 ∧ ∃ ts, fr = ⟨ts, 214, [], 3, none⟩ ∧ ts.get 5 = some (.int .i64 m) ∧ ts.get 6 = some (.int .i64 n) ∧ ts.get 7 = some (.ptr xb 0) ∧ ts.get 9 = some (.ptr yb 0) ∧ ts.get 11 = some (.int .i64 j) ∧ ts.get 12 = some (.ptr hj.next 0) ∧ ts.get 99 = some (c.exps) ∧ ts.get 100 = some (.int .i64 x.exps.length) ∧ ts.get 101 = some (.int .i64 j) ∧ ts.get 115 = some (.bool false)) rfl ?_ ?_
    ·(try simp (maxSteps := 2000000) only [wk, wl, wx, reduceLT, reduceEqDiff, Nat.reduceBEq, reduceIte, wd, Chk, and_true, true_and, List.take_succ_cons, List.take_zero, un, t5, t6, t7, t9, t11, t12, t99, t100, t101, fa41_0, fa32_4, Nat.zero_add, b16.at ty9 rfl, by16.at ty28 rfl, s2, fN, sN, bin_sneq, beqL_t k1, Bool.not_true])
     first | refine ⟨by trivial, _, rfl, ?_, ?_, ?_, ?_, ?_, ?_, ?_, ?_, ?_, ?_⟩ | refine ⟨_, rfl, ?_, ?_, ?_, ?_, ?_, ?_, ?_, ?_, ?_, ?_⟩
     all_goals (try simp only [wk, wl, wx, reduceLT, reduceEqDiff, Nat.reduceBEq, reduceIte, t5, t6, t7, t9, t11, t12, t99, t100, t101, Nat.zero_add])
     all_goals (first | done | rfl | trivial)
    clear t5 t6 t7 t9 t11 t12 t99 t100 t101
    rintro fr hM ⟨hhe, ts, rfl, t5, t6, t7, t9, t11, t12, t99, t100, t101, t115⟩
    subst hM
    simp only [List.drop_succ_cons, List.drop_zero]
    refine WPlan_two 15 (M := fun fr hM => hM = h16 ∧ ∃ ts, fr = ⟨ts, 214, [], 3, none⟩ ∧ ts.get 5 = some (.int .i64 m) ∧ ts.get 6 = some (.int .i64 n) ∧ ts.get 7 = some (.ptr xb 0) ∧ ts.get 9 = some (.ptr yb 0) ∧ ts.get 11 = some (.int .i64 j) ∧ ts.get 12 = some (.ptr hj.next 0) ∧ ts.get 99 = some (c.exps) ∧ ts.get 100 = some (.int .i64 x.exps.length) ∧ ts.get 101 = some (.int .i64 j) ∧ ts.get 130 = some (.bool false)) rfl ?_ ?_
    ·(try simp (maxSteps := 2000000) only [wk, wl, wx, reduceLT, reduceEqDiff, Nat.reduceBEq, reduceIte, wd, Chk, and_true, true_and, List.take_succ_cons, List.take_zero, un, t5, t6, t7, t9, t11, t12, t99, t100, t101, t115, fa41_1, fa32_4, Nat.zero_add, b16.at ty2 rfl, by16.at ty28 rfl, s2, fA, sA, i64, bin_sub, wX, wY, bin_neq, ine_f k2])
     first | refine ⟨by trivial, _, rfl, ?_, ?_, ?_, ?_, ?_, ?_, ?_, ?_, ?_, ?_⟩ | refine ⟨_, rfl, ?_, ?_, ?_, ?_, ?_, ?_, ?_, ?_, ?_, ?_⟩
     all_goals (try simp only [wk, wl, wx, reduceLT, reduceEqDiff, Nat.reduceBEq, reduceIte, t5, t6, t7, t9, t11, t12, t99, t100, t101, t115, Nat.zero_add])
     all_goals (first | done | rfl | trivial)
    clear t5 t6 t7 t9 t11 t12 t99 t100 t101 t115
    rintro fr hM ⟨hhe, ts, rfl, t5, t6, t7, t9, t11, t12, t99, t100, t101, t130⟩
    subst hM
    simp only [List.drop_succ_cons, List.drop_zero]
    refine WPlan_two 6 (M := fun fr hM => hM = h16 ∧ ∃ ts, fr = ⟨ts, 214, [], 3, none⟩ ∧ ts.get 5 = some (.int .i64 m) ∧ ts.get 6 = some (.int .i64 n) ∧ ts.get 7 = some (.ptr xb 0) ∧ ts.get 9 = some (.ptr yb 0) ∧ ts.get 11 = some (.int .i64 j) ∧ ts.get 12 = some (.ptr hj.next 0) ∧ ts.get 99 = some (c.exps) ∧ ts.get 100 = some (.int .i64 x.exps.length) ∧ ts.get 101 = some (.int .i64 j) ∧ ts.get 136 = some (.bool false)) rfl ?_ ?_
    ·(try simp (maxSteps := 2000000) only [wk, wl, wx, reduceLT, reduceEqDiff, Nat.reduceBEq, reduceIte, wd, Chk, and_true, true_and, List.take_succ_cons, List.take_zero, un, t5, t6, t7, t9, t11, t12, t99, t100, t101, t130, fa41_1, Nat.zero_add, b16.at ty2 rfl, i64, decide_eq_false (show ¬ X.addr < m by omega)])
     first | refine ⟨by trivial, _, rfl, ?_, ?_, ?_, ?_, ?_, ?_, ?_, ?_, ?_, ?_⟩ | refine ⟨_, rfl, ?_, ?_, ?_, ?_, ?_, ?_, ?_, ?_, ?_, ?_⟩
     all_goals (try simp only [wk, wl, wx, reduceLT, reduceEqDiff, Nat.reduceBEq, reduceIte, t5, t6, t7, t9, t11, t12, t99, t100, t101, t130, Nat.zero_add])
     all_goals (first | done | rfl | trivial)
    clear t5 t6 t7 t9 t11 t12 t99 t100 t101 t130
    rintro fr hM ⟨hhe, ts, rfl, t5, t6, t7, t9, t11, t12, t99, t100, t101, t136⟩
    subst hM
    simp only [List.drop_succ_cons, List.drop_zero]
    (try simp (maxSteps := 2000000) only [wk, wl, wx, reduceLT, reduceEqDiff, Nat.reduceBEq, reduceIte, wd, Chk, and_true, true_and, un, t5, t6, t7, t9, t11, t12, t99, t100, t101, t136, fa41_1, fa32_1, Nat.zero_add, b16.at ty2 rfl, bx16.at ty27 rfl, i64, lb16, bin_add, wZ, decide_eq_false (show ¬ m + (x.bytes.length : Nat) < X.addr by omega)])
    refine WC.cond (b := false) (by (try simp only [wk, wl, wx, reduceLT, reduceEqDiff, Nat.reduceBEq, reduceIte]); (try simp); (try omega)) (WC.skip ?_)
    (try simp only [wk, wl, wx, reduceLT, reduceEqDiff, Nat.reduceBEq, reduceIte])
    ((repeat refine WC.seq ?_); refine WC.run ?_)
    (try simp only [wk, wl, wx, reduceLT, reduceEqDiff, Nat.reduceBEq, reduceIte, t101, bin_add])
    refine ⟨_, ?_, _, j + 1, rfl, ⟨by omega, fun b hb => by rw [F16.same b (by omega), fj.same b hb]⟩, rfl, by omega, ?_⟩
    ·omega
    (try simp only [wk, wl, wx, reduceLT, reduceEqDiff, Nat.reduceBEq, reduceIte, t5, t6, t7, t9, t99, t100])
    refine ⟨trivial, trivial, trivial, trivial, trivial, trivial, ?_⟩
    rw [wrap64 (by omega) (by omega)]; rfl
   ·refine WC.cond (b := false) (by (try simp only [wk, wl, wx, reduceLT, reduceEqDiff, Nat.reduceBEq, reduceIte]); (try simp); (try omega)) (WC.exit ?_)
    (try simp only [wk, wl, wx, reduceLT, reduceEqDiff, Nat.reduceBEq, reduceIte, nb0])
    ((repeat refine WC.seq ?_); refine WC.run ?_)
    (try simp only [wk, wl, wx, reduceLT, reduceEqDiff, Nat.reduceBEq, reduceIte, t7, fa32_5, Nat.zero_add, bxj.at ty29 rfl, lsx, Sl.lenB ixj.slots ty29 rfl])
    (repeat refine WC.seq ?_)
    refine WC.block ?_
    refine WC.while (fun mm fr hk => ∃ ts k, fr = ⟨ts, 214, [], 3, none⟩ ∧ Kept hj hk ∧ mm = x.slots.length - k ∧ k ≤ x.slots.length ∧ ts.get 5 = some (.int .i64 m) ∧ ts.get 6 = some (.int .i64 n) ∧ ts.get 7 = some (.ptr xb 0) ∧ ts.get 9 = some (.ptr yb 0) ∧ ts.get 148 = some c.slots ∧ ts.get 149 = some (.int .i64 x.slots.length) ∧ ts.get 150 = some (.int .i64 k)) ?_ ⟨_, 0, rfl, Fix.refl _ _, rfl, by omega, ?_, ?_, ?_, ?_, ?_, ?_, ?_⟩
    ·rintro mm fr hk ⟨ts, k, rfl, fk, rfl, hkl, t5, t6, t7, t9, t148, t149, t150⟩
     have xk := fk.next
     have ixk := ixj.fix fk fun b hb => by omega
     have iyk := iyj.fix fk fun b hb => by omega
     have byk := byj.fix fk (by omega)
     ((repeat refine WC.seq ?_); refine WC.run ?_)
     (try simp only [wk, wl, wx, reduceLT, reduceEqDiff, Nat.reduceBEq, reduceIte, t149, t150])
     (repeat refine WC.seq ?_)
     by_cases hlk : k < x.slots.length
     ·refine WC.cond (b := true) (by (try simp only [wk, wl, wx, reduceLT, reduceEqDiff, Nat.reduceBEq, reduceIte]); (try simp); (try omega)) (WC.skip ?_)
      (try simp only [wk, wl, wx, reduceLT, reduceEqDiff, Nat.reduceBEq, reduceIte])
      obtain ⟨k1, k2, k3, k4, k5⟩ := mv.slots k hlk (by omega)
      obtain ⟨pp, p1, p2⟩ := ixk.slots.at slotV_length ty29 rfl ty43 rfl (by decide) rfl hlk
      have p2 := p2 hk fun _ _ _ _ _ => rfl
      obtain ⟨mk, o, s1, s2, s3⟩ := iyk.slots.spot slotV_length ty29 rfl ty43 rfl (by decide) (show k < y.slots.length by omega)
      generalize x.slots[k] = X at p2 k1 k2 k3 k4 k5
      generalize y.slots[k]'(by omega) = Y at s3 k1 k2 k5
      (repeat refine WC.seq ?_)
      refine WC.block ?_
      ((repeat refine WC.seq ?_); refine WC.run ?_)
      (try simp only [wk, wl, wx, reduceLT, reduceEqDiff, Nat.reduceBEq, reduceIte, t148, t150, p1, p2])
      refine wop_alloc ty43 ?_
      intro h15 b15 n15 f15
      (try simp only [wk, wl, wx, reduceLT, reduceEqDiff, Nat.reduceBEq, reduceIte])
      refine sat_store b15 ty43 rfl (Nat.le_refl 3) (slotV_one X) ?_
      intro h16 b16 n16 f16
      have b16 : Has h16 hk.next [.str X.name, i64 X.addr, i64 X.bound] := b16
      have F16 : Kept hk h16 := ⟨by omega, fun b hb => by rw [f16.same b (by omega), f15.same b hb]⟩
      have by16 := byk.fix F16 (by omega)
      have s3 := s3 h16 fun b o m c e => F16.same b (by have := iyk.inS _ _ _ _ e; omega)
      have sN := s3 0 (by decide) 9 _ ty9 rfl
      have sA := s3 1 (by decide) 2 _ ty2 rfl
      have sB := s3 2 (by decide) 2 _ ty2 rfl
      simp only [Nat.add_zero] at sN
      have sN : loadP (E g) h16 9 (mk o) = some (.str Y.name) := sN
      have sA : loadP (E g) h16 2 (mk (o + 1)) = some (i64 Y.addr) := sA
      have sB : loadP (E g) h16 2 (mk (o + 2)) = some (i64 Y.bound) := sB
      have fN : fieldAddrV (E g) 43 (mk o) 0 = some (mk o) := by
       rcases s1 with ⟨bb, hb⟩ | ⟨bb, hb⟩
       ·rw [hb]; exact fa43_0
       ·rw [hb]; exact fg43_0
      have fA : fieldAddrV (E g) 43 (mk o) 1 = some (mk (o + 1)) := by
       rcases s1 with ⟨bb, hb⟩ | ⟨bb, hb⟩
       ·rw [hb, hb]; exact fa43_1
       ·rw [hb, hb]; exact fg43_1
      have fB : fieldAddrV (E g) 43 (mk o) 2 = some (mk (o + 2)) := by
       rcases s1 with ⟨bb, hb⟩ | ⟨bb, hb⟩
       ·rw [hb, hb]; exact fa43_2
       ·rw [hb, hb]; exact fg43_2
      have wX : IntKind.i64.wrap (X.addr - m) = X.addr - m := wrap64 (by omega) (by omega)
      have wY : IntKind.i64.wrap (Y.addr - n) = Y.addr - n := wrap64 (by omega) (by omega)
      (try simp only [wk, wl, wx, reduceLT, reduceEqDiff, Nat.reduceBEq, reduceIte])
      ((repeat refine WC.seq ?_); refine WC.draw (plans := pl3_21) (by kernel_rfl) ?_; simp only [pl3_21, List.mem_cons, List.not_mem_nil, or_false, forall_eq_or_imp, forall_eq])
      refine WPlan_cutL [(5, .int .i64 m), (6, .int .i64 n), (7, .ptr xb 0), (9, .ptr yb 0), (13, .int .i64 k), (14, .ptr hk.next 0), (148, c.slots), (149, .int .i64 x.slots.length), (150, .int .i64 k)] ?_ ?_
      ·simp only [List.mem_cons, List.not_mem_nil, or_false, forall_eq_or_imp, forall_eq]
       (try simp only [wk, wl, wx, reduceLT, reduceEqDiff, Nat.reduceBEq, reduceIte, t5, t6, t7, t9, t148, t149, t150])
       (first | done | trivial | exact ⟨by trivial, by trivial, by trivial, by trivial, by trivial, by trivial, by trivial, by trivial, by trivial⟩)
      clear t5 t6 t7 t9 t148 t149 t150
      intro ts hts
      simp only [List.mem_cons, List.not_mem_nil, or_false, forall_eq_or_imp, forall_eq] at hts
      obtain ⟨t5, t6, t7, t9, t13, t14, t148, t149, t150⟩ := hts
      rcases k5 with ⟨z1, z2⟩ | ⟨z1, z2, z3, z4, z5⟩
      ·skip
       refine WPlan_two 10 (M := fun fr hM => hM = h16 ∧ ∃ ts, fr = ⟨ts, 214, [], 3, none⟩ ∧ ts.get 5 = some (.int .i64 m) ∧ ts.get 6 = some (.int .i64 n) ∧ ts.get 7 = some (.ptr xb 0) ∧ ts.get 9 = some (.ptr yb 0) ∧ ts.get 13 = some (.int .i64 k) ∧ ts.get 14 = some (.ptr hk.next 0) ∧ ts.get 148 = some (c.slots) ∧ ts.get 149 = some (.int .i64 x.slots.length) ∧ ts.get 150 = some (.int .i64 k) ∧ ts.get 164 = some (.bool false)) rfl ?_ ?_
       ·(try simp (maxSteps := 2000000) only [wk, wl, wx, reduceLT, reduceEqDiff, Nat.reduceBEq, reduceIte, wd, Chk, and_true, true_and, List.take_succ_cons, List.take_zero, un, t5, t6, t7, t9, t13, t14, t148, t149, t150, fa43_0, fa32_5, Nat.zero_add, b16.at ty9 rfl, by16.at ty29 rfl, s2, fN, sN, bin_sneq, beqL_t k1, Bool.not_true])
        first | refine ⟨by trivial, _, rfl, ?_, ?_, ?_, ?_, ?_, ?_, ?_, ?_, ?_, ?_⟩ | refine ⟨_, rfl, ?_, ?_, ?_, ?_, ?_, ?_, ?_, ?_, ?_, ?_⟩
        all_goals (try simp only [wk, wl, wx, reduceLT, reduceEqDiff, Nat.reduceBEq, reduceIte, t5, t6, t7, t9, t13, t14, t148, t149, t150, Nat.zero_add])
        all_goals (first | done | rfl | trivial)
       clear t5 t6 t7 t9 t13 t14 t148 t149 t150
       rintro fr hM ⟨hhe, ts, rfl, t5, t6, t7, t9, t13, t14, t148, t149, t150, t164⟩
       subst hM
       simp only [List.drop_succ_cons, List.drop_zero]
       refine WPlan_two 15 (M := fun fr hM => hM = h16 ∧ ∃ ts, fr = ⟨ts, 214, [], 3, none⟩ ∧ ts.get 5 = some (.int .i64 m) ∧ ts.get 6 = some (.int .i64 n) ∧ ts.get 7 = some (.ptr xb 0) ∧ ts.get 9 = some (.ptr yb 0) ∧ ts.get 13 = some (.int .i64 k) ∧ ts.get 14 = some (.ptr hk.next 0) ∧ ts.get 148 = some (c.slots) ∧ ts.get 149 = some (.int .i64 x.slots.length) ∧ ts.get 150 = some (.int .i64 k) ∧ ts.get 179 = some (.bool false)) rfl ?_ ?_
       ·(try simp (maxSteps := 2000000) only [wk, wl, wx, reduceLT, reduceEqDiff, Nat.reduceBEq, reduceIte, wd, Chk, and_true, true_and, List.take_succ_cons, List.take_zero, un, t5, t6, t7, t9, t13, t14, t148, t149, t150, t164, fa43_1, fa32_5, Nat.zero_add, b16.at ty2 rfl, by16.at ty29 rfl, s2, fA, sA, i64, bin_sub, wX, wY, bin_neq, ine_f k2])
        first | refine ⟨by trivial, _, rfl, ?_, ?_, ?_, ?_, ?_, ?_, ?_, ?_, ?_, ?_⟩ | refine ⟨_, rfl, ?_, ?_, ?_, ?_, ?_, ?_, ?_, ?_, ?_, ?_⟩
        all_goals (try simp only [wk, wl, wx, reduceLT, reduceEqDiff, Nat.reduceBEq, reduceIte, t5, t6, t7, t9, t13, t14, t148, t149, t150, t164, Nat.zero_add])
        all_goals (first | done | rfl | trivial)
       clear t5 t6 t7 t9 t13 t14 t148 t149 t150 t164
       rintro fr hM ⟨hhe, ts, rfl, t5, t6, t7, t9, t13, t14, t148, t149, t150, t179⟩
       subst hM
       simp only [List.drop_succ_cons, List.drop_zero]
       refine WPlan_two 13 (M := fun fr hM => hM = h16 ∧ ∃ ts, fr = ⟨ts, 214, [], 3, none⟩ ∧ ts.get 5 = some (.int .i64 m) ∧ ts.get 6 = some (.int .i64 n) ∧ ts.get 7 = some (.ptr xb 0) ∧ ts.get 9 = some (.ptr yb 0) ∧ ts.get 13 = some (.int .i64 k) ∧ ts.get 14 = some (.ptr hk.next 0) ∧ ts.get 148 = some (c.slots) ∧ ts.get 149 = some (.int .i64 x.slots.length) ∧ ts.get 150 = some (.int .i64 k) ∧ ts.get 192 = some (.bool false)) rfl ?_ ?_
       ·(try simp (maxSteps := 2000000) only [wk, wl, wx, reduceLT, reduceEqDiff, Nat.reduceBEq, reduceIte, wd, Chk, and_true, true_and, List.take_succ_cons, List.take_zero, un, t5, t6, t7, t9, t13, t14, t148, t149, t150, t179, fa43_2, fa32_5, Nat.zero_add, b16.at ty2 rfl, by16.at ty29 rfl, s2, fB, sB, i64, ieq_t z1, ieq_t z2, bne_bb])
        first | refine ⟨by trivial, _, rfl, ?_, ?_, ?_, ?_, ?_, ?_, ?_, ?_, ?_, ?_⟩ | refine ⟨_, rfl, ?_, ?_, ?_, ?_, ?_, ?_, ?_, ?_, ?_, ?_⟩
        all_goals (try simp only [wk, wl, wx, reduceLT, reduceEqDiff, Nat.reduceBEq, reduceIte, t5, t6, t7, t9, t13, t14, t148, t149, t150, t179, Nat.zero_add])
        all_goals (first | done | rfl | trivial)
       clear t5 t6 t7 t9 t13 t14 t148 t149 t150 t179
       rintro fr hM ⟨hhe, ts, rfl, t5, t6, t7, t9, t13, t14, t148, t149, t150, t192⟩
       subst hM
       simp only [List.drop_succ_cons, List.drop_zero]
       refine WPlan_two 4 (M := fun fr hM => hM = h16 ∧ ∃ ts, fr = ⟨ts, 214, [], 3, none⟩ ∧ ts.get 5 = some (.int .i64 m) ∧ ts.get 6 = some (.int .i64 n) ∧ ts.get 7 = some (.ptr xb 0) ∧ ts.get 9 = some (.ptr yb 0) ∧ ts.get 13 = some (.int .i64 k) ∧ ts.get 14 = some (.ptr hk.next 0) ∧ ts.get 148 = some (c.slots) ∧ ts.get 149 = some (.int .i64 x.slots.length) ∧ ts.get 150 = some (.int .i64 k) ∧ ts.get 192 = some (.bool false) ∧ ts.get 196 = some (.bool false)) rfl ?_ ?_
       ·(try simp (maxSteps := 2000000) only [wk, wl, wx, reduceLT, reduceEqDiff, Nat.reduceBEq, reduceIte, wd, Chk, and_true, true_and, List.take_succ_cons, List.take_zero, un, t5, t6, t7, t9, t13, t14, t148, t149, t150, t192, fa43_2, Nat.zero_add, b16.at ty2 rfl, i64, bin_neq, ine_f z1])
        first | refine ⟨by trivial, _, rfl, ?_, ?_, ?_, ?_, ?_, ?_, ?_, ?_, ?_, ?_, ?_⟩ | refine ⟨_, rfl, ?_, ?_, ?_, ?_, ?_, ?_, ?_, ?_, ?_, ?_, ?_⟩
        all_goals (try simp only [wk, wl, wx, reduceLT, reduceEqDiff, Nat.reduceBEq, reduceIte, t5, t6, t7, t9, t13, t14, t148, t149, t150, t192, Nat.zero_add])
        all_goals (first | done | rfl | trivial)
       clear t5 t6 t7 t9 t13 t14 t148 t149 t150 t192
       rintro fr hM ⟨hhe, ts, rfl, t5, t6, t7, t9, t13, t14, t148, t149, t150, t192, t196⟩
       subst hM
       simp only [List.drop_succ_cons, List.drop_zero]
       (try simp (maxSteps := 2000000) only [wk, wl, wx, reduceLT, reduceEqDiff, Nat.reduceBEq, reduceIte, wd, Chk, and_true, true_and, un, t5, t6, t7, t9, t13, t14, t148, t149, t150, t192, t196])

       refine WC.cond (b := false) (by (try simp only [wk, wl, wx, reduceLT, reduceEqDiff, Nat.reduceBEq, reduceIte]); (try simp); (try omega)) (WC.skip ?_)
       (try simp only [wk, wl, wx, reduceLT, reduceEqDiff, Nat.reduceBEq, reduceIte])
       ((repeat refine WC.seq ?_); refine WC.run ?_)
       (try simp only [wk, wl, wx, reduceLT, reduceEqDiff, Nat.reduceBEq, reduceIte, t150, bin_add])
       refine ⟨_, ?_, _, k + 1, rfl, ⟨by omega, fun b hb => by rw [F16.same b (by omega), fk.same b hb]⟩, rfl, by omega, ?_⟩
       ·omega
       (try simp only [wk, wl, wx, reduceLT, reduceEqDiff, Nat.reduceBEq, reduceIte, t5, t6, t7, t9, t148, t149])
       refine ⟨trivial, trivial, trivial, trivial, trivial, trivial, ?_⟩
       rw [wrap64 (by omega) (by omega)]; rfl
      ·skip
       have wB : IntKind.i64.wrap (X.bound - m) = X.bound - m := wrap64 (by omega) (by omega)
       have wC : IntKind.i64.wrap (Y.bound - n) = Y.bound - n := wrap64 (by omega) (by omega)
       refine WPlan_two 10 (M := fun fr hM => hM = h16 ∧ ∃ ts, fr = ⟨ts, 214, [], 3, none⟩ ∧ ts.get 5 = some (.int .i64 m) ∧ ts.get 6 = some (.int .i64 n) ∧ ts.get 7 = some (.ptr xb 0) ∧ ts.get 9 = some (.ptr yb 0) ∧ ts.get 13 = some (.int .i64 k) ∧ ts.get 14 = some (.ptr hk.next 0) ∧ ts.get 148 = some (c.slots) ∧ ts.get 149 = some (.int .i64 x.slots.length) ∧ ts.get 150 = some (.int .i64 k) ∧ ts.get 164 = some (.bool false)) rfl ?_ ?_
       ·(try simp (maxSteps := 2000000) only [wk, wl, wx, reduceLT, reduceEqDiff, Nat.reduceBEq, reduceIte, wd, Chk, and_true, true_and, List.take_succ_cons, List.take_zero, un, t5, t6, t7, t9, t13, t14, t148, t149, t150, fa43_0, fa32_5, Nat.zero_add, b16.at ty9 rfl, by16.at ty29 rfl, s2, fN, sN, bin_sneq, beqL_t k1, Bool.not_true])
        first | refine ⟨by trivial, _, rfl, ?_, ?_, ?_, ?_, ?_, ?_, ?_, ?_, ?_, ?_⟩ | refine ⟨_, rfl, ?_, ?_, ?_, ?_, ?_, ?_, ?_, ?_, ?_, ?_⟩
        all_goals (try simp only [wk, wl, wx, reduceLT, reduceEqDiff, Nat.reduceBEq, reduceIte, t5, t6, t7, t9, t13, t14, t148, t149, t150, Nat.zero_add])
        all_goals (first | done | rfl | trivial)
       clear t5 t6 t7 t9 t13 t14 t148 t149 t150
       rintro fr hM ⟨hhe, ts, rfl, t5, t6, t7, t9, t13, t14, t148, t149, t150, t164⟩
       subst hM
       simp only [List.drop_succ_cons, List.drop_zero]
       refine WPlan_two 15 (M := fun fr hM => hM = h16 ∧ ∃ ts, fr = ⟨ts, 214, [], 3, none⟩ ∧ ts.get 5 = some (.int .i64 m) ∧ ts.get 6 = some (.int .i64 n) ∧ ts.get 7 = some (.ptr xb 0) ∧ ts.get 9 = some (.ptr yb 0) ∧ ts.get 13 = some (.int .i64 k) ∧ ts.get 14 = some (.ptr hk.next 0) ∧ ts.get 148 = some (c.slots) ∧ ts.get 149 = some (.int .i64 x.slots.length) ∧ ts.get 150 = some (.int .i64 k) ∧ ts.get 179 = some (.bool false)) rfl ?_ ?_
       ·(try simp (maxSteps := 2000000) only [wk, wl, wx, reduceLT, reduceEqDiff, Nat.reduceBEq, reduceIte, wd, Chk, and_true, true_and, List.take_succ_cons, List.take_zero, un, t5, t6, t7, t9, t13, t14, t148, t149, t150, t164, fa43_1, fa32_5, Nat.zero_add, b16.at ty2 rfl, by16.at ty29 rfl, s2, fA, sA, i64, bin_sub, wX, wY, bin_neq, ine_f k2])
        first | refine ⟨by trivial, _, rfl, ?_, ?_, ?_, ?_, ?_, ?_, ?_, ?_, ?_, ?_⟩ | refine ⟨_, rfl, ?_, ?_, ?_, ?_, ?_, ?_, ?_, ?_, ?_, ?_⟩
        all_goals (try simp only [wk, wl, wx, reduceLT, reduceEqDiff, Nat.reduceBEq, reduceIte, t5, t6, t7, t9, t13, t14, t148, t149, t150, t164, Nat.zero_add])
        all_goals (first | done | rfl | trivial)
       clear t5 t6 t7 t9 t13 t14 t148 t149 t150 t164
       rintro fr hM ⟨hhe, ts, rfl, t5, t6, t7, t9, t13, t14, t148, t149, t150, t179⟩
       subst hM
       simp only [List.drop_succ_cons, List.drop_zero]
       refine WPlan_two 13 (M := fun fr hM => hM = h16 ∧ ∃ ts, fr = ⟨ts, 214, [], 3, none⟩ ∧ ts.get 5 = some (.int .i64 m) ∧ ts.get 6 = some (.int .i64 n) ∧ ts.get 7 = some (.ptr xb 0) ∧ ts.get 9 = some (.ptr yb 0) ∧ ts.get 13 = some (.int .i64 k) ∧ ts.get 14 = some (.ptr hk.next 0) ∧ ts.get 148 = some (c.slots) ∧ ts.get 149 = some (.int .i64 x.slots.length) ∧ ts.get 150 = some (.int .i64 k) ∧ ts.get 192 = some (.bool false)) rfl ?_ ?_
       ·(try simp (maxSteps := 2000000) only [wk, wl, wx, reduceLT, reduceEqDiff, Nat.reduceBEq, reduceIte, wd, Chk, and_true, true_and, List.take_succ_cons, List.take_zero, un, t5, t6, t7, t9, t13, t14, t148, t149, t150, t179, fa43_2, fa32_5, Nat.zero_add, b16.at ty2 rfl, by16.at ty29 rfl, s2, fB, sB, i64, ieq_f z1, ieq_f z2, bne_bb])
        first | refine ⟨by trivial, _, rfl, ?_, ?_, ?_, ?_, ?_, ?_, ?_, ?_, ?_, ?_⟩ | refine ⟨_, rfl, ?_, ?_, ?_, ?_, ?_, ?_, ?_, ?_, ?_, ?_⟩
        all_goals (try simp only [wk, wl, wx, reduceLT, reduceEqDiff, Nat.reduceBEq, reduceIte, t5, t6, t7, t9, t13, t14, t148, t149, t150, t179, Nat.zero_add])
        all_goals (first | done | rfl | trivial)
       clear t5 t6 t7 t9 t13 t14 t148 t149 t150 t179
       rintro fr hM ⟨hhe, ts, rfl, t5, t6, t7, t9, t13, t14, t148, t149, t150, t192⟩
       subst hM
       simp only [List.drop_succ_cons, List.drop_zero]
       refine WPlan_two 4 (M := fun fr hM => hM = h16 ∧ ∃ ts, fr = ⟨ts, 214, [], 3, none⟩ ∧ ts.get 5 = some (.int .i64 m) ∧ ts.get 6 = some (.int .i64 n) ∧ ts.get 7 = some (.ptr xb 0) ∧ ts.get 9 = some (.ptr yb 0) ∧ ts.get 13 = some (.int .i64 k) ∧ ts.get 14 = some (.ptr hk.next 0) ∧ ts.get 148 = some (c.slots) ∧ ts.get 149 = some (.int .i64 x.slots.length) ∧ ts.get 150 = some (.int .i64 k) ∧ ts.get 192 = some (.bool false) ∧ ts.get 196 = some (.bool true)) rfl ?_ ?_
       ·(try simp (maxSteps := 2000000) only [wk, wl, wx, reduceLT, reduceEqDiff, Nat.reduceBEq, reduceIte, wd, Chk, and_true, true_and, List.take_succ_cons, List.take_zero, un, t5, t6, t7, t9, t13, t14, t148, t149, t150, t192, fa43_2, Nat.zero_add, b16.at ty2 rfl, i64, bin_neq, ine_t z1])
        first | refine ⟨by trivial, _, rfl, ?_, ?_, ?_, ?_, ?_, ?_, ?_, ?_, ?_, ?_, ?_⟩ | refine ⟨_, rfl, ?_, ?_, ?_, ?_, ?_, ?_, ?_, ?_, ?_, ?_, ?_⟩
        all_goals (try simp only [wk, wl, wx, reduceLT, reduceEqDiff, Nat.reduceBEq, reduceIte, t5, t6, t7, t9, t13, t14, t148, t149, t150, t192, Nat.zero_add])
        all_goals (first | done | rfl | trivial)
       clear t5 t6 t7 t9 t13 t14 t148 t149 t150 t192
       rintro fr hM ⟨hhe, ts, rfl, t5, t6, t7, t9, t13, t14, t148, t149, t150, t192, t196⟩
       subst hM
       simp only [List.drop_succ_cons, List.drop_zero]
       (try simp (maxSteps := 2000000) only [wk, wl, wx, reduceLT, reduceEqDiff, Nat.reduceBEq, reduceIte, wd, Chk, and_true, true_and, un, t5, t6, t7, t9, t13, t14, t148, t149, t150, t192, t196, fa43_2, fa32_5, Nat.zero_add, b16.at ty2 rfl, by16.at ty29 rfl, s2, fB, sB, i64, bin_sub, wB, wC, bin_neq, ine_f z3])

       refine WC.cond (b := false) (by (try simp only [wk, wl, wx, reduceLT, reduceEqDiff, Nat.reduceBEq, reduceIte]); (try simp); (try omega)) (WC.skip ?_)
       (try simp only [wk, wl, wx, reduceLT, reduceEqDiff, Nat.reduceBEq, reduceIte])
       ((repeat refine WC.seq ?_); refine WC.run ?_)
       (try simp only [wk, wl, wx, reduceLT, reduceEqDiff, Nat.reduceBEq, reduceIte, t150, bin_add])
       refine ⟨_, ?_, _, k + 1, rfl, ⟨by omega, fun b hb => by rw [F16.same b (by omega), fk.same b hb]⟩, rfl, by omega, ?_⟩
       ·omega
       (try simp only [wk, wl, wx, reduceLT, reduceEqDiff, Nat.reduceBEq, reduceIte, t5, t6, t7, t9, t148, t149])
       refine ⟨trivial, trivial, trivial, trivial, trivial, trivial, ?_⟩
       rw [wrap64 (by omega) (by omega)]; rfl
     ·refine WC.cond (b := false) (by (try simp only [wk, wl, wx, reduceLT, reduceEqDiff, Nat.reduceBEq, reduceIte]); (try simp); (try omega)) (WC.exit ?_)
      (try simp only [wk, wl, wx, reduceLT, reduceEqDiff, Nat.reduceBEq, reduceIte, nb2])
      ((repeat refine WC.seq ?_); refine WC.run ?_)
      (try simp only [wk, wl, wx, reduceLT, reduceEqDiff, Nat.reduceBEq, reduceIte])
      refine awake_ok ?_
      (try simp only [wk, wl, wx, reduceLT, reduceEqDiff, Nat.reduceBEq, reduceIte])
      refine WC.ret ?_
      (try simp only [wk, wl, wx, reduceLT, reduceEqDiff, Nat.reduceBEq, reduceIte])
    all_goals (try simp only [wk, wl, wx, reduceLT, reduceEqDiff, Nat.reduceBEq, reduceIte, t5, t6, t7, t9])
    all_goals (first | done | rfl | trivial | simp)
  all_goals (try simp only [wk, wl, wx, reduceLT, reduceEqDiff, Nat.reduceBEq, reduceIte, t5, t6, t7, t9])
  all_goals (first | done | rfl | trivial | simp)
end Go.Proofs.OP
