/- Walks: image. -/
import Derived.Test.YtloblhhnlaaajaaDoorV15
import Derived.Test.YtloblhhnlaaajaaDoorV22
import Derived.Test.YtloblhhnlaaajaaDoorV17
set_option linter.unusedVariables false
set_option linter.unusedSimpArgs false
set_option linter.defProp false
set_option linter.unusedSimpArgs false
namespace Go.Proofs.OP
open Go Go.Ev
open Go.Proofs
open Nat (reduceLT reduceEqDiff)
variable {g : T (List V)}

def pre18 : List Stp := [⟨0, false, false, []⟩, ⟨1, false, true, []⟩, ⟨3, false, false, []⟩, ⟨4, false, true, []⟩, ⟨6, false, false, []⟩, ⟨7, false, true, []⟩, ⟨8, false, false, []⟩, ⟨9, false, true, []⟩, ⟨11, false, false, []⟩, ⟨12, false, true, []⟩]
def ss18 : Stps := [(⟨2, true, false, [12, 9, 7, 4, 1]⟩, 10, []), (⟨5, true, false, [12, 9, 7, 1]⟩, 13, [2]), (⟨10, true, false, [12, 9, 7, 4, 1]⟩, 18, []), (⟨13, true, false, [9, 7, 1]⟩, 21, [10]), (⟨14, false, false, []⟩, 22, [5, 13]), (⟨15, true, false, [12, 9, 7, 4, 1]⟩, 3, [])]
def P18 (g : T (List V)) (n0 : Nat) (o : ImgD) : Nat → V → H → Prop
 | 2, v, h => Lit0 n0 h 5 v
 | 5, v, h => Own g n0 h 5 v (o.bytes.map u8)
 | 10, v, h => Lit0 n0 h 9 v
 | 13, v, h => Own g n0 h 9 v (o.needs.map V.str)
 | 14, v, h => ∃ x z, v = .agg [i64 o.base, x, i64 o.code, i64 o.entry, .nils, .nils, z] ∧ Own g n0 h 5 x (o.bytes.map u8) ∧ Own g n0 h 9 z (o.needs.map V.str)
 | 15, v, h => NewB n0 h 32 [i64 0, .nils, i64 0, i64 0, .nils, .nils, .nils] v
 | _, _, _ => True
theorem build56 {a b c : Int} {x z : V} (hx : x.cells = [x]) (hz : z.cells = [z]) : buildV (E g) 32 [(0, i64 a), (1, x), (2, i64 b), (3, i64 c), (6, z)] = some (.agg [i64 a, x, i64 b, i64 c, .nils, .nils, z]) := by
 simp only [buildV, ty32, fillAll, nth, sizeOf_of ty2, sizeOf_of ty27, sizeOf_of ty30, hx, hz, List.all_cons, List.all_nil, ty2, ty27, ty28, ty29, ty30, Option.isSome_some, Bool.and_true, Bool.not_true, cond_false]
 rfl
theorem fill2 {a b : V} {cs : List V} (h : cs.length = 2) : fillAll (fun k => some (k * 2, 2)) (repL [a, b] 1) [(0, .agg cs)] = some cs := by
 match cs, h with
 | [_, _], _ => rfl
theorem fill3 {a b c : V} {cs : List V} (h : cs.length = 3) : fillAll (fun k => some (k * 3, 3)) (repL [a, b, c] 1) [(0, .agg cs)] = some cs := by
 match cs, h with
 | [_, _, _], _ => rfl
theorem expV_length (x : ExpD) : (expV x).length = 2 := rfl
theorem slotV_length (x : SlotD) : (slotV x).length = 3 := rfl
theorem expV_one (x : ExpD) : (expV x).all V.one = true := rfl
theorem slotV_one (x : SlotD) : (slotV x).all V.one = true := rfl

set_option maxRecDepth 100000 in
set_option maxHeartbeats 8000000 in
theorem image_ok {h : H} {c : Ic} {o : ImgD} (ob : Im g h (· < h.next) c o) (fit : FitsI o) : WF (E g) 76 [.agg (c.cells o)] h fun v h' => ∃ c', v = .agg (c'.cells o) ∧ Im g h' (fun b => h.next ≤ b ∧ b < h'.next) c' o ∧ Kept h h' := by
 have fs := fit.exps
 have fr := fit.slots
 have fn := fit.needs
 have fc := fit.bytes
 refine WF.enter fn76 rfl ?_
 ((repeat refine WC.seq ?_); refine WC.run ?_)
 (try simp only [wk, wl, wx, reduceLT, reduceEqDiff, Nat.reduceBEq, reduceIte])
 refine wop_box (v := .agg (c.cells o)) (by (try simp only [wk, wl, wx, reduceLT, reduceEqDiff, Nat.reduceBEq, reduceIte])) ?_
 intro h1 b1 n1 f1
 (try simp only [wk, wl, wx, reduceLT, reduceEqDiff, Nat.reduceBEq, reduceIte])
 have b1 : Has h1 h.next [i64 o.base, c.bytes, i64 o.code, i64 o.entry, c.exps, c.slots, c.needs] := b1
 have ob1 := (ob.fix f1 (fun _ h => h)).up (K' := (· < h1.next)) (fun _ h => by omega)
 refine wop_alloc ty32 ?_
 intro h2 b2 n2 f2
 (try simp only [wk, wl, wx, reduceLT, reduceEqDiff, Nat.reduceBEq, reduceIte])
 have c2 := b1.fix f2 (by omega)
 have ob2 := (ob1.fix f2 (fun _ h => h)).up (K' := (· < h2.next)) (fun _ h => by omega)
 (repeat refine WC.seq ?_)
 refine WC.draw2 (pre := pre18) (ss := ss18) (all := [14, 15]) (tail := [⟨16, true, false, []⟩]) (by kernel_rfl) ?_
 intro q hq
 simp only [pre18, List.cons_append, List.nil_append]
 (try simp (maxSteps := 2000000) only [wk, wl, wx, reduceLT, reduceEqDiff, Nat.reduceBEq, reduceIte, wd, Chk, and_true, true_and, fa60_0, fa60_1, fa60_2, fa60_3, fa60_6, Nat.zero_add, c2.at ty2 rfl, c2.at ty27 rfl, c2.at ty30 rfl])
 refine WPlan.fresh (P := P18 g h2.next o) (ss := ss18) (by rfl) ?_ ?_ ?_ hq
 ·intro s d need hm v k k' hv ff
  simp only [ss18, List.mem_cons, List.not_mem_nil, or_false, Prod.mk.injEq] at hm
  rcases hm with ⟨rfl, -, -⟩ | ⟨rfl, -, -⟩ | ⟨rfl, -, -⟩ | ⟨rfl, -, -⟩ | ⟨rfl, -, -⟩ | ⟨rfl, -, -⟩
  ·exact Lit0.fix hv ff
  ·exact Own.fix hv ff
  ·exact Lit0.fix hv ff
  ·exact Own.fix hv ff
  ·obtain ⟨x, z, q1, q2, q4⟩ := hv
   exact ⟨x, z, q1, q2.fix ff, q4.fix ff⟩
  ·exact NewB.fix hv ff
 ·intro s d need hm ts k ff hk hd
  have x2 := ff.next
  have ob := (ob2.fix ff (fun _ h => h)).up (K' := (· < k.next)) (fun _ h => by omega)
  have bk := c2.fix ff (by omega)
  have e9 : ts.get 9 = some (i64 o.base) := (hk 9 rfl).trans (by (try simp only [wk, wl, wx, reduceLT, reduceEqDiff, Nat.reduceBEq, reduceIte]))
  have e12 : ts.get 12 = some c.bytes := (hk 12 rfl).trans (by (try simp only [wk, wl, wx, reduceLT, reduceEqDiff, Nat.reduceBEq, reduceIte]))
  have e15 : ts.get 15 = some (i64 o.code) := (hk 15 rfl).trans (by (try simp only [wk, wl, wx, reduceLT, reduceEqDiff, Nat.reduceBEq, reduceIte]))
  have e17 : ts.get 17 = some (i64 o.entry) := (hk 17 rfl).trans (by (try simp only [wk, wl, wx, reduceLT, reduceEqDiff, Nat.reduceBEq, reduceIte]))
  have e20 : ts.get 20 = some c.needs := (hk 20 rfl).trans (by (try simp only [wk, wl, wx, reduceLT, reduceEqDiff, Nat.reduceBEq, reduceIte]))
  have e8 : ts.get 8 = some (.ptr h.next 0) := (hk 8 rfl).trans (by (try simp only [wk, wl, wx, reduceLT, reduceEqDiff, Nat.reduceBEq, reduceIte]))
  have e11 : ts.get 11 = some (.ptr h.next 1) := (hk 11 rfl).trans (by (try simp only [wk, wl, wx, reduceLT, reduceEqDiff, Nat.reduceBEq, reduceIte]))
  have e14 : ts.get 14 = some (.ptr h.next 2) := (hk 14 rfl).trans (by (try simp only [wk, wl, wx, reduceLT, reduceEqDiff, Nat.reduceBEq, reduceIte]))
  have e16 : ts.get 16 = some (.ptr h.next 3) := (hk 16 rfl).trans (by (try simp only [wk, wl, wx, reduceLT, reduceEqDiff, Nat.reduceBEq, reduceIte]))
  have e19 : ts.get 19 = some (.ptr h.next 6) := (hk 19 rfl).trans (by (try simp only [wk, wl, wx, reduceLT, reduceEqDiff, Nat.reduceBEq, reduceIte]))
  simp only [ss18, List.mem_cons, List.not_mem_nil, or_false, Prod.mk.injEq] at hm
  rcases hm with ⟨rfl, rfl, rfl⟩ | ⟨rfl, rfl, rfl⟩ | ⟨rfl, rfl, rfl⟩ | ⟨rfl, rfl, rfl⟩ | ⟨rfl, rfl, rfl⟩ | ⟨rfl, rfl, rfl⟩
  ·(try simp (maxSteps := 2000000) only [wk, wl, wx, reduceLT, reduceEqDiff, Nat.reduceBEq, reduceIte, wd, Chk, and_true, true_and, WStp, e8, e9, e11, e12, e14, e15, e16, e17, e19, e20])
   refine sat_literal ty27 rfl ty5 rfl (by decide) (by decide) rfl rfl ?_
   intro k3 b3 n3 f3
   have bk3 := bk.fix f3 (by omega)
   (try simp (maxSteps := 2000000) only [wk, wl, wx, reduceLT, reduceEqDiff, Nat.reduceBEq, reduceIte, wd, Chk, and_true, true_and, e8, e9, e11, e12, e14, e15, e16, e17, e19, e20, bk3.at ty2 rfl, bk3.at ty27 rfl, bk3.at ty30 rfl])
   exact ⟨_, rfl, f3, k.next, rfl, by omega, by omega, _, _, _, _, b3⟩
  ·obtain ⟨v, v1, b, rfl, v2, v3, t, N, dd, kk, v4⟩ := hd _ _ _ (show ((⟨2, true, false, [12, 9, 7, 4, 1]⟩, 10, []) : Stp × Nat × List Nat) ∈ ss18 by simp [ss18]) (by simp)
   (try simp (maxSteps := 2000000) only [wk, wl, wx, reduceLT, reduceEqDiff, Nat.reduceBEq, reduceIte, wd, Chk, and_true, true_and, WStp, e8, e9, e11, e12, e14, e15, e16, e17, e19, e20, v1])
   refine sat_app0 (m := (o.bytes.map u8).length) (ws := o.bytes.map u8) v4 v3 ty27 rfl ty27 (.inl ⟨_, rfl⟩) ty5 rfl (by decide) (by decide) (by simpa using Sl.len ob.bytes) (by simpa using Sl.cells ob.bytes) (by simp) one_u8 (by simp; omega) ?_
   intro s3 k3 g3 o3 el3 f3 n3
   have bk3 := bk.fix f3 (by omega)
   (try simp (maxSteps := 2000000) only [wk, wl, wx, reduceLT, reduceEqDiff, Nat.reduceBEq, reduceIte, wd, Chk, and_true, true_and, e8, e9, e11, e12, e14, e15, e16, e17, e19, e20, v1, bk3.at ty2 rfl, bk3.at ty27 rfl, bk3.at ty30 rfl])
   refine ⟨_, rfl, f3, g3, fun b' o k c e => ?_, el3⟩
   obtain ⟨q1, q2⟩ := o3 _ _ _ _ e
   exact ⟨by rcases q1 with rfl | rfl <;> omega, q2⟩
  ·(try simp (maxSteps := 2000000) only [wk, wl, wx, reduceLT, reduceEqDiff, Nat.reduceBEq, reduceIte, wd, Chk, and_true, true_and, WStp, e8, e9, e11, e12, e14, e15, e16, e17, e19, e20])
   refine sat_literal ty30 rfl ty9 rfl (by decide) (by decide) rfl rfl ?_
   intro k3 b3 n3 f3
   have bk3 := bk.fix f3 (by omega)
   (try simp (maxSteps := 2000000) only [wk, wl, wx, reduceLT, reduceEqDiff, Nat.reduceBEq, reduceIte, wd, Chk, and_true, true_and, e8, e9, e11, e12, e14, e15, e16, e17, e19, e20, bk3.at ty2 rfl, bk3.at ty27 rfl, bk3.at ty30 rfl])
   exact ⟨_, rfl, f3, k.next, rfl, by omega, by omega, _, _, _, _, b3⟩
  ·obtain ⟨v, v1, b, rfl, v2, v3, t, N, dd, kk, v4⟩ := hd _ _ _ (show ((⟨10, true, false, [12, 9, 7, 4, 1]⟩, 18, []) : Stp × Nat × List Nat) ∈ ss18 by simp [ss18]) (by simp)
   (try simp (maxSteps := 2000000) only [wk, wl, wx, reduceLT, reduceEqDiff, Nat.reduceBEq, reduceIte, wd, Chk, and_true, true_and, WStp, e8, e9, e11, e12, e14, e15, e16, e17, e19, e20, v1])
   refine sat_app0 (m := (o.needs.map V.str).length) (ws := o.needs.map V.str) v4 v3 ty30 rfl ty30 (.inl ⟨_, rfl⟩) ty9 rfl (by decide) (by decide) (by simpa using Sl.len ob.needs) (by simpa using Sl.cells ob.needs) (by simp) one_str (by simp; omega) ?_
   intro s3 k3 g3 o3 el3 f3 n3
   have bk3 := bk.fix f3 (by omega)
   (try simp (maxSteps := 2000000) only [wk, wl, wx, reduceLT, reduceEqDiff, Nat.reduceBEq, reduceIte, wd, Chk, and_true, true_and, e8, e9, e11, e12, e14, e15, e16, e17, e19, e20, v1, bk3.at ty2 rfl, bk3.at ty27 rfl, bk3.at ty30 rfl])
   refine ⟨_, rfl, f3, g3, fun b' o k c e => ?_, el3⟩
   obtain ⟨q1, q2⟩ := o3 _ _ _ _ e
   exact ⟨by rcases q1 with rfl | rfl <;> omega, q2⟩
  ·obtain ⟨x, x1, x2', x3, x4⟩ := hd _ _ _ (show ((⟨5, true, false, [12, 9, 7, 1]⟩, 13, [2]) : Stp × Nat × List Nat) ∈ ss18 by simp [ss18]) (by simp)
   obtain ⟨z, z1, z2, z3, z4⟩ := hd _ _ _ (show ((⟨13, true, false, [9, 7, 1]⟩, 21, [10]) : Stp × Nat × List Nat) ∈ ss18 by simp [ss18]) (by simp)
   (try simp (maxSteps := 2000000) only [wk, wl, wx, reduceLT, reduceEqDiff, Nat.reduceBEq, reduceIte, wd, Chk, and_true, true_and, WStp, e8, e9, e11, e12, e14, e15, e16, e17, e19, e20, x1, z1, build56 x2'.sl.one.1 z2.sl.one.1])
   exact ⟨_, rfl, Fix.refl _ _, x, z, rfl, ⟨x2', x3, x4⟩, ⟨z2, z3, z4⟩⟩
  ·(try simp (maxSteps := 2000000) only [wk, wl, wx, reduceLT, reduceEqDiff, Nat.reduceBEq, reduceIte, wd, Chk, and_true, true_and, WStp, e8, e9, e11, e12, e14, e15, e16, e17, e19, e20])
   refine wop_allocE ty32 ?_
   intro k3 b3 t3 n3 f3
   have bk3 := bk.fix f3 (by omega)
   (try simp (maxSteps := 2000000) only [wk, wl, wx, reduceLT, reduceEqDiff, Nat.reduceBEq, reduceIte, wd, Chk, and_true, true_and, e8, e9, e11, e12, e14, e15, e16, e17, e19, e20, bk3.at ty2 rfl, bk3.at ty27 rfl, bk3.at ty30 rfl])
   exact ⟨_, rfl, f3, k.next, rfl, by omega, by omega, b3, t3⟩
 ·intro ts k ff hk hd
  have x2 := ff.next
  have ob : Im g k (· < h.next) c o := (((ob.fix f1 fun _ h => h).fix f2 fun _ _ => by omega)).fix ff fun _ _ => by omega
  have bk := c2.fix ff (by omega)
  have d2 := b2.fix ff (by omega)
  have e1 : ts.get 1 = some (.ptr h.next 0) := (hk 1 rfl).trans (by (try simp only [wk, wl, wx, reduceLT, reduceEqDiff, Nat.reduceBEq, reduceIte]))
  have e2 : ts.get 2 = some (.ptr h1.next 0) := (hk 2 rfl).trans (by (try simp only [wk, wl, wx, reduceLT, reduceEqDiff, Nat.reduceBEq, reduceIte]))
  obtain ⟨v, v1, x, z, rfl, ⟨x1, x3, x4⟩, ⟨z1, z3, z4⟩⟩ := hd _ _ _ (show ((⟨14, false, false, []⟩, 22, [5, 13]) : Stp × Nat × List Nat) ∈ ss18 by simp [ss18]) (by simp)
  obtain ⟨w, w1, b3, rfl, w2, w3, w4, tt, tm, td, tk, w5⟩ := hd _ _ _ (show ((⟨15, true, false, [12, 9, 7, 4, 1]⟩, 3, []) : Stp × Nat × List Nat) ∈ ss18 by simp [ss18]) (by simp)
  have nx : In (fun b => h2.next ≤ b ∧ b < k.next ∧ b ≠ b3) x := fun b o n c q => ⟨(x3 _ _ _ _ q).1, (x3 _ _ _ _ q).2, by
   rintro rfl
   obtain ⟨t, m, d, kk, q'⟩ := x4 _ _ _ _ q
   rw [w5] at q'; simp at q'⟩
  have nz : In (fun b => h2.next ≤ b ∧ b < k.next ∧ b ≠ b3) z := fun b o n c q => ⟨(z3 _ _ _ _ q).1, (z3 _ _ _ _ q).2, by
   rintro rfl
   obtain ⟨t, m, d, kk, q'⟩ := z4 _ _ _ _ q
   rw [w5] at q'; simp at q'⟩
  (try simp (maxSteps := 2000000) only [wk, wl, wx, reduceLT, reduceEqDiff, Nat.reduceBEq, reduceIte, wd, Chk, and_true, true_and, v1, w1])
  refine sat_store w4 ty32 rfl (by simp) (by simp only [V.cells, List.all_cons, List.all_nil, x1.sl.one.2, z1.sl.one.2, Bool.and_true]; rfl) ?_
  intro k4 d4 n4 f4
  have d4 : Has k4 b3 [i64 o.base, x, i64 o.code, i64 o.entry, .nils, .nils, z] := d4
  have bk4 := bk.fix f4 (by omega)
  have ob4 : Im g k4 (· < h.next) c o := (ob.fix (K' := (· ≠ b3)) f4 (fun b hb => by omega))
  (try simp (maxSteps := 2000000) only [wk, wl, wx, reduceLT, reduceEqDiff, Nat.reduceBEq, reduceIte, wd, Chk, and_true, true_and])
  ((repeat refine WC.seq ?_); refine WC.run ?_)
  (try simp only [wk, wl, wx, reduceLT, reduceEqDiff, Nat.reduceBEq, reduceIte, e1, fa60_4, Nat.zero_add, bk4.at ty57 rfl, Sl.lenB ob4.exps ty57 rfl])
  (repeat refine WC.seq ?_)
  refine WC.block ?_
  refine WC.while (fun m fr hh => ∃ ts i sv, fr = ⟨ts, 52, [], 76, none⟩ ∧ Fix (fun b => b < k4.next ∧ b ≠ b3) k4 hh ∧ m = o.exps.length - i ∧ i ≤ o.exps.length ∧ ts.get 1 = some (.ptr h.next 0) ∧ ts.get 2 = some (.ptr h1.next 0) ∧ ts.get 3 = some (.ptr b3 0) ∧ ts.get 24 = some c.exps ∧ ts.get 25 = some (.int .i64 o.exps.length) ∧ ts.get 26 = some (.int .i64 i) ∧ Has hh b3 [i64 o.base, x, i64 o.code, i64 o.entry, sv, .nils, z] ∧ Buf (E g) hh 41 2 sv i ((o.exps.take i).flatMap expV) ∧ In (fun b => k4.next ≤ b ∧ b < hh.next) sv) ?_ ⟨_, 0, .nils, rfl, Fix.refl _ _, rfl, by omega, ?_, ?_, ?_, ?_, ?_, ?_, d4, .nil, In.nils⟩
  ·rintro m fr hh ⟨ts, i, sv, rfl, fh, rfl, hi, t1, t2, t3, t26, t27, t28, dh, bu, nu⟩
   have xh := fh.next
   have obh := ob4.fix fh (fun b hb => ⟨by omega, by omega⟩)
   ((repeat refine WC.seq ?_); refine WC.run ?_)
   (try simp only [wk, wl, wx, reduceLT, reduceEqDiff, Nat.reduceBEq, reduceIte, t27, t28])
   (repeat refine WC.seq ?_)
   by_cases hlt : i < o.exps.length
   ·refine WC.cond (b := true) (by (try simp only [wk, wl, wx, reduceLT, reduceEqDiff, Nat.reduceBEq, reduceIte]); (try simp); (try omega)) (WC.skip ?_)
    (try simp only [wk, wl, wx, reduceLT, reduceEqDiff, Nat.reduceBEq, reduceIte])
    obtain ⟨p, p1, p2⟩ := obh.exps.at expV_length ty57 rfl ty135 rfl (by decide) rfl hlt
    have p2 := p2 hh fun _ _ _ _ _ => rfl
    (repeat refine WC.seq ?_)
    refine WC.block ?_
    ((repeat refine WC.seq ?_); refine WC.run ?_)
    (try simp only [wk, wl, wx, reduceLT, reduceEqDiff, Nat.reduceBEq, reduceIte, t26, t28, p1, p2])
    refine wop_alloc ty135 ?_
    intro h5 b5 n5 f5
    (try simp only [wk, wl, wx, reduceLT, reduceEqDiff, Nat.reduceBEq, reduceIte])
    refine sat_store b5 ty135 rfl (by decide) rfl ?_
    intro h6 b6 n6 f6
    have b6 : Has h6 hh.next (expV o.exps[i]) := b6
    have F6 : Fix (· < hh.next) hh h6 := ⟨by omega, fun c hc => by rw [f6.same c (by omega), f5.same c (by omega)]⟩
    have d6 := dh.fix F6 (by omega)
    have bu6 := bu.fix (nu.sub fun _ hx => hx.2) F6
    (try simp only [wk, wl, wx, reduceLT, reduceEqDiff, Nat.reduceBEq, reduceIte])
    ((repeat refine WC.seq ?_); refine WC.run ?_)
    have l6 : loadP (E g) h6 135 (.ptr hh.next 0) = some (.agg (expV o.exps[i])) := b6.agg ty135 rfl (show 0 + 2 ≤ (expV o.exps[i]).length from Nat.le_refl 2)
    (try simp only [wk, wl, wx, reduceLT, reduceEqDiff, Nat.reduceBEq, reduceIte, t3, fa32_4, Nat.zero_add, d6.at ty28 rfl, l6])
    refine sat_buildSlice (cs := expV o.exps[i]) ty28 rfl ty41 rfl (by decide) (by decide) (fill2 (expV_length _)) rfl ?_
    intro h7 b7 n7 f7
    have d7 := d6.fix f7 (by omega)
    have bu7 := bu6.fix (nu.sub fun b hx => (by omega : b < h6.next)) f7
    (try simp only [wk, wl, wx, reduceLT, reduceEqDiff, Nat.reduceBEq, reduceIte, t3])
    refine sat_grow bu7 (nu.sub fun b hx => (by omega : b < h7.next)) ty28 rfl ty28 (.inl ⟨_, rfl⟩) ty41 rfl (by decide) (by decide) b7.sl.len b7.sl.cells (by rfl) (expV_one _) (by simp; omega) ?_
    intro sw h8 g8
    have x8 := g8.fix.next
    have d8 := d7.fix g8.fix ⟨by omega, fun o m cc e => by have := nu _ _ _ _ e; omega⟩
    have w8 : In (fun b => k4.next ≤ b ∧ b < h8.next) sw := fun b o n c e => ⟨by
     rcases g8.own _ _ _ _ e with q | ⟨o, k, c, q⟩
     ·omega
     ·exact (nu _ _ _ _ q).1, g8.low _ _ _ _ e⟩
    (try simp only [wk, wl, wx, reduceLT, reduceEqDiff, Nat.reduceBEq, reduceIte, t3, fa32_4, Nat.zero_add])
    refine sat_store d8 ty28 (by rw [g8.buf.sl.one.1]; rfl) (by simp) (by rw [g8.buf.sl.one.1]; simp [g8.buf.sl.one.2]) ?_
    intro h9 d9 n9 f9
    rw [g8.buf.sl.one.1] at d9
    have d9 : Has h9 b3 [i64 o.base, x, i64 o.code, i64 o.entry, sw, .nils, z] := d9
    (try simp only [wk, wl, wx, reduceLT, reduceEqDiff, Nat.reduceBEq, reduceIte])
    ((repeat refine WC.seq ?_); refine WC.run ?_)
    (try simp only [wk, wl, wx, reduceLT, reduceEqDiff, Nat.reduceBEq, reduceIte, t28, bin_add])
    refine ⟨_, ?_, _, i + 1, sw, rfl, ⟨by omega, fun b hb => ?_⟩, rfl, by omega, ?_⟩
    ·omega
    ·rw [f9.same b hb.2, g8.fix.same b ⟨by omega, fun o m cc e => by have := nu _ _ _ _ e; omega⟩, f7.same b (by omega), F6.same b (by omega), fh.same b hb]
    (try simp only [wk, wl, wx, reduceLT, reduceEqDiff, Nat.reduceBEq, reduceIte, t1, t2, t3, t26, t27])
    refine ⟨trivial, trivial, trivial, trivial, trivial, ?_, d9, ?_, w8.sub fun b hb => by omega⟩
    ·rw [wrap64 (by omega) (by omega)]; rfl
    ·rw [flat_snoc expV hlt]
     exact g8.buf.fix (K := (· ≠ b3)) (w8.sub fun b hb => by omega) f9
   ·refine WC.cond (b := false) (by (try simp only [wk, wl, wx, reduceLT, reduceEqDiff, Nat.reduceBEq, reduceIte]); (try simp); (try omega)) (WC.exit ?_)
    have : i = o.exps.length := by omega
    subst this
    rw [List.take_length] at bu
    (try simp only [wk, wl, wx, reduceLT, reduceEqDiff, Nat.reduceBEq, reduceIte])
    have nus := nu
    have bus := bu
    have bkh : Has hh h.next [i64 o.base, c.bytes, i64 o.code, i64 o.entry, c.exps, c.slots, c.needs] := bk4.fix fh ⟨by omega, by omega⟩
    ((repeat refine WC.seq ?_); refine WC.run ?_)
    (try simp only [wk, wl, wx, reduceLT, reduceEqDiff, Nat.reduceBEq, reduceIte, t1, fa60_5, Nat.zero_add, bkh.at ty58 rfl, Sl.lenB obh.slots ty58 rfl])
    (repeat refine WC.seq ?_)
    refine WC.block ?_
    refine WC.while (fun m fr hq => ∃ ts i rv, fr = ⟨ts, 52, [], 76, none⟩ ∧ Fix (fun b => b < hh.next ∧ b ≠ b3) hh hq ∧ m = o.slots.length - i ∧ i ≤ o.slots.length ∧ ts.get 1 = some (.ptr h.next 0) ∧ ts.get 2 = some (.ptr h1.next 0) ∧ ts.get 3 = some (.ptr b3 0) ∧ ts.get 38 = some c.slots ∧ ts.get 39 = some (.int .i64 o.slots.length) ∧ ts.get 40 = some (.int .i64 i) ∧ Has hq b3 [i64 o.base, x, i64 o.code, i64 o.entry, sv, rv, z] ∧ Buf (E g) hq 43 3 rv i ((o.slots.take i).flatMap slotV) ∧ In (fun b => hh.next ≤ b ∧ b < hq.next) rv) ?_ ⟨_, 0, .nils, rfl, Fix.refl _ _, rfl, by omega, ?_, ?_, ?_, ?_, ?_, ?_, dh, .nil, In.nils⟩
    ·rintro m fr hq ⟨ts, i, rv, rfl, fq, rfl, hi, t1, t2, t3, t40, t41, t42, dq, bu, nu⟩
     have xq := fq.next
     have obq := obh.fix fq (fun b hb => ⟨by omega, by omega⟩)
     ((repeat refine WC.seq ?_); refine WC.run ?_)
     (try simp only [wk, wl, wx, reduceLT, reduceEqDiff, Nat.reduceBEq, reduceIte, t41, t42])
     (repeat refine WC.seq ?_)
     by_cases hlt : i < o.slots.length
     ·refine WC.cond (b := true) (by (try simp only [wk, wl, wx, reduceLT, reduceEqDiff, Nat.reduceBEq, reduceIte]); (try simp); (try omega)) (WC.skip ?_)
      (try simp only [wk, wl, wx, reduceLT, reduceEqDiff, Nat.reduceBEq, reduceIte])
      obtain ⟨p, p1, p2⟩ := obq.slots.at slotV_length ty58 rfl ty136 rfl (by decide) rfl hlt
      have p2 := p2 hq fun _ _ _ _ _ => rfl
      (repeat refine WC.seq ?_)
      refine WC.block ?_
      ((repeat refine WC.seq ?_); refine WC.run ?_)
      (try simp only [wk, wl, wx, reduceLT, reduceEqDiff, Nat.reduceBEq, reduceIte, t40, t42, p1, p2])
      refine wop_alloc ty136 ?_
      intro h5 b5 n5 f5
      (try simp only [wk, wl, wx, reduceLT, reduceEqDiff, Nat.reduceBEq, reduceIte])
      refine sat_store b5 ty136 rfl (by decide) rfl ?_
      intro h6 b6 n6 f6
      have b6 : Has h6 hq.next (slotV o.slots[i]) := b6
      have F6 : Fix (· < hq.next) hq h6 := ⟨by omega, fun c hc => by rw [f6.same c (by omega), f5.same c (by omega)]⟩
      have d6 := dq.fix F6 (by omega)
      have bu6 := bu.fix (nu.sub fun _ hx => hx.2) F6
      (try simp only [wk, wl, wx, reduceLT, reduceEqDiff, Nat.reduceBEq, reduceIte])
      ((repeat refine WC.seq ?_); refine WC.run ?_)
      have l6 : loadP (E g) h6 136 (.ptr hq.next 0) = some (.agg (slotV o.slots[i])) := b6.agg ty136 rfl (show 0 + 3 ≤ (slotV o.slots[i]).length from Nat.le_refl 3)
      (try simp only [wk, wl, wx, reduceLT, reduceEqDiff, Nat.reduceBEq, reduceIte, t3, fa32_5, Nat.zero_add, d6.at ty29 rfl, l6])
      refine sat_buildSlice (cs := slotV o.slots[i]) ty29 rfl ty43 rfl (by decide) (by decide) (fill3 (slotV_length _)) rfl ?_
      intro h7 b7 n7 f7
      have d7 := d6.fix f7 (by omega)
      have bu7 := bu6.fix (nu.sub fun b hx => (by omega : b < h6.next)) f7
      (try simp only [wk, wl, wx, reduceLT, reduceEqDiff, Nat.reduceBEq, reduceIte, t3])
      refine sat_grow bu7 (nu.sub fun b hx => (by omega : b < h7.next)) ty29 rfl ty29 (.inl ⟨_, rfl⟩) ty43 rfl (by decide) (by decide) b7.sl.len b7.sl.cells (by rfl) (slotV_one _) (by simp; omega) ?_
      intro sw h8 g8
      have x8 := g8.fix.next
      have d8 := d7.fix g8.fix ⟨by omega, fun o m cc e => by have := nu _ _ _ _ e; omega⟩
      have w8 : In (fun b => hh.next ≤ b ∧ b < h8.next) sw := fun b o n c e => ⟨by
       rcases g8.own _ _ _ _ e with q | ⟨o, k, c, q⟩
       ·omega
       ·exact (nu _ _ _ _ q).1, g8.low _ _ _ _ e⟩
      (try simp only [wk, wl, wx, reduceLT, reduceEqDiff, Nat.reduceBEq, reduceIte, t3, fa32_5, Nat.zero_add])
      refine sat_store d8 ty29 (by rw [g8.buf.sl.one.1]; rfl) (by simp) (by rw [g8.buf.sl.one.1]; simp [g8.buf.sl.one.2]) ?_
      intro h9 d9 n9 f9
      rw [g8.buf.sl.one.1] at d9
      have d9 : Has h9 b3 [i64 o.base, x, i64 o.code, i64 o.entry, sv, sw, z] := d9
      (try simp only [wk, wl, wx, reduceLT, reduceEqDiff, Nat.reduceBEq, reduceIte])
      ((repeat refine WC.seq ?_); refine WC.run ?_)
      (try simp only [wk, wl, wx, reduceLT, reduceEqDiff, Nat.reduceBEq, reduceIte, t42, bin_add])
      refine ⟨_, ?_, _, i + 1, sw, rfl, ⟨by omega, fun b hb => ?_⟩, rfl, by omega, ?_⟩
      ·omega
      ·rw [f9.same b hb.2, g8.fix.same b ⟨by omega, fun o m cc e => by have := nu _ _ _ _ e; omega⟩, f7.same b (by omega), F6.same b (by omega), fq.same b hb]
      (try simp only [wk, wl, wx, reduceLT, reduceEqDiff, Nat.reduceBEq, reduceIte, t1, t2, t3, t40, t41])
      refine ⟨trivial, trivial, trivial, trivial, trivial, ?_, d9, ?_, w8.sub fun b hb => by omega⟩
      ·rw [wrap64 (by omega) (by omega)]; rfl
      ·rw [flat_snoc slotV hlt]
       exact g8.buf.fix (K := (· ≠ b3)) (w8.sub fun b hb => by omega) f9
     ·refine WC.cond (b := false) (by (try simp only [wk, wl, wx, reduceLT, reduceEqDiff, Nat.reduceBEq, reduceIte]); (try simp); (try omega)) (WC.exit ?_)
      have : i = o.slots.length := by omega
      subst this
      rw [List.take_length] at bu
      (try simp only [wk, wl, wx, reduceLT, reduceEqDiff, Nat.reduceBEq, reduceIte])
      have Fq : Fix (fun b => b < k.next ∧ b ≠ b3) k hq := ⟨by omega, fun b hb => by rw [fq.same b ⟨by omega, hb.2⟩, fh.same b ⟨by omega, hb.2⟩, f4.same b hb.2]⟩
      have lz : loadP (E g) hq 32 (.ptr b3 0) = some (.agg [i64 o.base, x, i64 o.code, i64 o.entry, sv, rv, z]) := dq.agg ty32 rfl (Nat.le_refl 7)
      have d2q := d2.fix Fq ⟨by omega, by omega⟩
      ((repeat refine WC.seq ?_); refine WC.run ?_)
      (try simp only [wk, wl, wx, reduceLT, reduceEqDiff, Nat.reduceBEq, reduceIte, t2, t3, lz])
      refine sat_store d2q ty32 rfl (Nat.le_refl 7) (by simp only [V.cells, List.all_cons, List.all_nil, x1.sl.one.2, z1.sl.one.2, bus.sl.one.2, bu.sl.one.2, Bool.and_true]; rfl) ?_
      intro hr dr nr fr'
      have dr : Has hr h1.next [i64 o.base, x, i64 o.code, i64 o.entry, sv, rv, z] := dr
      have lr : loadP (E g) hr 32 (.ptr h1.next 0) = some (.agg [i64 o.base, x, i64 o.code, i64 o.entry, sv, rv, z]) := dr.agg ty32 rfl (Nat.le_refl 7)
      (try simp only [wk, wl, wx, reduceLT, reduceEqDiff, Nat.reduceBEq, reduceIte])
      refine WC.ret ?_
      (try simp only [wk, wl, wx, reduceLT, reduceEqDiff, Nat.reduceBEq, reduceIte, t2, lr])
      have FF : Fix (fun b => b ≠ h1.next) hq hr := fr'
      refine ⟨⟨x, sv, rv, z⟩, rfl, ?_, ?_⟩
      ·have ff (K : Nat → Prop) (hK : ∀ b, K b → h2.next ≤ b ∧ b < k.next ∧ b ≠ b3) : Fix K k hr := ⟨by omega, fun b hb => by
        have := hK b hb
        rw [FF.same b (by omega), Fq.same b ⟨by omega, by omega⟩]⟩
       have q1 := x1.fix nx (ff _ fun _ h => h)
       have q3 := z1.fix nz (ff _ fun _ h => h)
       have q4 := (bus.fix (nus.sub fun b hb => (⟨by omega, by omega⟩ : b < hh.next ∧ b ≠ b3)) fq).fix (nus.sub fun b hb => (by omega : b ≠ h1.next)) FF
       have q5 := bu.fix (nu.sub fun b hb => (by omega : b ≠ h1.next)) FF
       exact ⟨by simpa using q1.sl, q4.sl, q5.sl, by simpa using q3.sl, nx.sub fun b hb => by omega, nus.sub fun b hb => by omega, nu.sub fun b hb => by omega, nz.sub fun b hb => by omega⟩
      ·exact ⟨by omega, fun b hb => by rw [fr'.same b (by omega), Fq.same b ⟨by omega, by omega⟩, ff.same b (by omega), f2.same b (by omega), f1.same b hb]⟩
    all_goals (try simp only [wk, wl, wx, reduceLT, reduceEqDiff, Nat.reduceBEq, reduceIte, t1, t2, t3])
    all_goals (first | trivial | rfl | simp)
  all_goals (try simp only [wk, wl, wx, reduceLT, reduceEqDiff, Nat.reduceBEq, reduceIte, e1, e2, w1])
  all_goals (first | trivial | rfl | simp)
end Go.Proofs.OP
