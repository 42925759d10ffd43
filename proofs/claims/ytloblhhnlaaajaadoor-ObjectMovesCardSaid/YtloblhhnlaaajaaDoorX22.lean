/- Walks: To. -/
import Derived.Test.YtloblhhnlaaajaaDoorX15
import Derived.Test.YtloblhhnlaaajaaDoorX20
set_option linter.unusedVariables false
set_option linter.unusedSimpArgs false
set_option linter.defProp false
set_option linter.unusedSimpArgs false
namespace Go.Proofs.OP
open Go Go.Ev
open Go.Proofs
open Nat (reduceLT reduceEqDiff)
variable {g : T (List V)}

def pre25 : List Stp := [⟨0, false, false, []⟩, ⟨1, false, true, []⟩, ⟨3, false, false, []⟩, ⟨4, false, true, []⟩, ⟨7, false, false, []⟩, ⟨8, false, true, []⟩, ⟨11, false, false, []⟩, ⟨12, false, true, []⟩, ⟨14, false, false, []⟩, ⟨15, false, true, []⟩]
def ss25 : Stps := [(⟨2, true, false, [15, 12, 8, 4, 1]⟩, 10, []), (⟨5, true, false, [15, 12, 8, 1]⟩, 13, [2]), (⟨6, true, false, [15, 12, 8, 4, 1]⟩, 14, []), (⟨9, true, false, [15, 12, 1]⟩, 17, [6]), (⟨10, true, false, [15, 12, 8, 4, 1]⟩, 18, []), (⟨13, true, false, [15, 1]⟩, 21, [10]), (⟨16, false, false, []⟩, 24, [5, 9, 13]), (⟨17, true, false, [15, 12, 8, 4, 1]⟩, 3, [])]

def Lit0 (n0 : Nat) (h : H) (e : Nat) (v : V) : Prop := ∃ b, v = .slice b 0 0 (.lit 0) ∧ n0 ≤ b ∧ b < h.next ∧ ∃ t N d k, h.t.get b = some (.cells t N d e k)
theorem Lit0.fix {n0 : Nat} {h h' : H} {e : Nat} {v : V} (a : Lit0 n0 h e v) (f : Fix (· < h.next) h h') : Lit0 n0 h' e v := by
 obtain ⟨b, a1, a2, a3, t, N, d, k, a4⟩ := a
 have := f.next
 exact ⟨b, a1, a2, by omega, t, N, d, k, by rw [f.same b a3]; exact a4⟩
def Own (g : T (List V)) (n0 : Nat) (h : H) (e : Nat) (v : V) (vs : List V) : Prop := Buf (E g) h e 1 v vs.length vs ∧ In (fun b => n0 ≤ b ∧ b < h.next) v ∧ El h e v
theorem Own.fix {n0 : Nat} {h h' : H} {e : Nat} {v : V} {vs : List V} (a : Own g n0 h e v vs) (f : Fix (· < h.next) h h') : Own g n0 h' e v vs := by
 obtain ⟨a1, a2, a3⟩ := a
 have := f.next
 exact ⟨a1.fix (a2.sub fun _ hx => hx.2) f, a2.sub fun _ hx => ⟨hx.1, by omega⟩, a3.fix (a2.sub fun _ hx => hx.2) f⟩
def NewB (n0 : Nat) (h : H) (e : Nat) (zs : List V) (v : V) : Prop := ∃ b, v = .ptr b 0 ∧ n0 ≤ b ∧ b < h.next ∧ Has h b zs ∧ ∃ t m d k, h.t.get b = some (.cells t m d e k)
theorem NewB.fix {n0 : Nat} {h h' : H} {e : Nat} {zs : List V} {v : V} (a : NewB n0 h e zs v) (f : Fix (· < h.next) h h') : NewB n0 h' e zs v := by
 obtain ⟨b, a1, a2, a3, a4, t, m, d, k, a5⟩ := a
 have := f.next
 exact ⟨b, a1, a2, by omega, a4.fix f a3, t, m, d, k, by rw [f.same b a3]; exact a5⟩

def P25 (g : T (List V)) (n0 : Nat) (o : ObjD) : Nat → V → H → Prop
 | 2, v, h => Lit0 n0 h 5 v
 | 5, v, h => Own g n0 h 5 v (o.code.map u8)
 | 6, v, h => Lit0 n0 h 5 v
 | 9, v, h => Own g n0 h 5 v (o.data.map u8)
 | 10, v, h => Lit0 n0 h 9 v
 | 13, v, h => Own g n0 h 9 v (o.needs.map V.str)
 | 16, v, h => ∃ x y z, v = .agg [.str o.name, x, y, .nils, .nils, z, .str o.entry] ∧ Own g n0 h 5 x (o.code.map u8) ∧ Own g n0 h 5 y (o.data.map u8) ∧ Own g n0 h 9 z (o.needs.map V.str)
 | 17, v, h => NewB n0 h 77 [.str [], .nils, .nils, .nils, .nils, .nils, .str []] v
 | _, _, _ => True

theorem one_u8 {xs : List UInt8} : (xs.map u8).all V.one = true := by simp [List.all_eq_true, u8, V.one]
theorem one_str {xs : List (List UInt8)} : (xs.map V.str).all V.one = true := by simp [List.all_eq_true, V.one]

theorem build77 {n e : List UInt8} {x y z : V} (hx : x.cells = [x]) (hy : y.cells = [y]) (hz : z.cells = [z]) : buildV (E g) 77 [(0, .str n), (1, x), (2, y), (5, z), (6, .str e)] = some (.agg [.str n, x, y, .nils, .nils, z, .str e]) := by
 simp only [buildV, ty77, fillAll, nth, sizeOf_of ty9, sizeOf_of ty27, sizeOf_of ty30, hx, hy, hz, List.all_cons, List.all_nil, ty9, ty27, ty74, ty75, ty30, Option.isSome_some, Bool.and_true, Bool.not_true, cond_false]
 rfl
theorem fill5 {a b c d e : V} {cs : List V} (h : cs.length = 5) : fillAll (fun k => some (k * 5, 5)) (repL [a, b, c, d, e] 1) [(0, .agg cs)] = some cs := by
 match cs, h with
 | [_, _, _, _, _], _ => rfl
theorem symV_length (x : SymD) : (symV x).length = 5 := rfl
theorem relV_length (x : RelD) : (relV x).length = 5 := rfl
theorem symV_one (x : SymD) : (symV x).all V.one = true := rfl
theorem relV_one (x : RelD) : (relV x).all V.one = true := rfl
theorem flat_snoc {α : Type} (f : α → List V) {L : List α} {i : Nat} (hi : i < L.length) : (L.take (i + 1)).flatMap f = (L.take i).flatMap f ++ f L[i] := by
 rw [List.take_succ_eq_append_getElem hi, List.flatMap_append, List.flatMap_cons, List.flatMap_nil, List.append_nil]

set_option maxRecDepth 100000 in
set_option maxHeartbeats 8000000 in
theorem to_ok {h : H} {c : Oc} {o : ObjD} (ob : Ob g h (· < h.next) c o) (fit : Fits o) : WF (E g) 25 [.agg (c.cells o)] h fun v h' => ∃ c', v = .agg (c'.cells o) ∧ Ob g h' (fun b => h.next ≤ b ∧ b < h'.next) c' o ∧ Kept h h' := by
 have fs := fit.syms
 have fr := fit.rels
 have fn := fit.needs
 have fc := fit.code
 have fd := fit.data
 refine WF.enter fn25 rfl ?_
 ((repeat refine WC.seq ?_); refine WC.run ?_)
 (try simp only [wk, wl, wx, reduceLT, reduceEqDiff, Nat.reduceBEq, reduceIte])
 refine wop_box (v := .agg (c.cells o)) (by (try simp only [wk, wl, wx, reduceLT, reduceEqDiff, Nat.reduceBEq, reduceIte])) ?_
 intro h1 b1 n1 f1
 (try simp only [wk, wl, wx, reduceLT, reduceEqDiff, Nat.reduceBEq, reduceIte])
 have b1 : Has h1 h.next [.str o.name, c.code, c.data, c.syms, c.rels, c.needs, .str o.entry] := b1
 have ob1 := (ob.fix f1 (fun _ h => h)).up (K' := (· < h1.next)) (fun _ h => by omega)
 refine wop_alloc ty77 ?_
 intro h2 b2 n2 f2
 (try simp only [wk, wl, wx, reduceLT, reduceEqDiff, Nat.reduceBEq, reduceIte])
 have c2 := b1.fix f2 (by omega)
 have ob2 := (ob1.fix f2 (fun _ h => h)).up (K' := (· < h2.next)) (fun _ h => by omega)
 (repeat refine WC.seq ?_)
 refine WC.draw2 (pre := pre25) (ss := ss25) (all := [16, 17]) (tail := [⟨18, true, false, []⟩]) (by kernel_rfl) ?_
 intro q hq
 simp only [pre25, List.cons_append, List.nil_append]
 (try simp (maxSteps := 2000000) only [wk, wl, wx, reduceLT, reduceEqDiff, Nat.reduceBEq, reduceIte, wd, Chk, and_true, true_and, fa70_0, fa70_1, fa70_2, fa70_5, fa70_6, Nat.zero_add, c2.at ty9 rfl, c2.at ty27 rfl, c2.at ty30 rfl])
 refine WPlan.fresh (P := P25 g h2.next o) (ss := ss25) (by rfl) ?_ ?_ ?_ hq
 ·intro s d need hm v k k' hv ff
  simp only [ss25, List.mem_cons, List.not_mem_nil, or_false, Prod.mk.injEq] at hm
  rcases hm with ⟨rfl, -, -⟩ | ⟨rfl, -, -⟩ | ⟨rfl, -, -⟩ | ⟨rfl, -, -⟩ | ⟨rfl, -, -⟩ | ⟨rfl, -, -⟩ | ⟨rfl, -, -⟩ | ⟨rfl, -, -⟩
  ·exact Lit0.fix hv ff
  ·exact Own.fix hv ff
  ·exact Lit0.fix hv ff
  ·exact Own.fix hv ff
  ·exact Lit0.fix hv ff
  ·exact Own.fix hv ff
  ·obtain ⟨x, y, z, q1, q2, q3, q4⟩ := hv
   exact ⟨x, y, z, q1, q2.fix ff, q3.fix ff, q4.fix ff⟩
  ·exact NewB.fix hv ff
 ·intro s d need hm ts k ff hk hd
  have x2 := ff.next
  have ob := (ob2.fix ff (fun _ h => h)).up (K' := (· < k.next)) (fun _ h => by omega)
  have bk := c2.fix ff (by omega)
  have e9 : ts.get 9 = some (.str o.name) := (hk 9 rfl).trans (by (try simp only [wk, wl, wx, reduceLT, reduceEqDiff, Nat.reduceBEq, reduceIte]))
  have e12 : ts.get 12 = some c.code := (hk 12 rfl).trans (by (try simp only [wk, wl, wx, reduceLT, reduceEqDiff, Nat.reduceBEq, reduceIte]))
  have e16 : ts.get 16 = some c.data := (hk 16 rfl).trans (by (try simp only [wk, wl, wx, reduceLT, reduceEqDiff, Nat.reduceBEq, reduceIte]))
  have e20 : ts.get 20 = some c.needs := (hk 20 rfl).trans (by (try simp only [wk, wl, wx, reduceLT, reduceEqDiff, Nat.reduceBEq, reduceIte]))
  have e23 : ts.get 23 = some (.str o.entry) := (hk 23 rfl).trans (by (try simp only [wk, wl, wx, reduceLT, reduceEqDiff, Nat.reduceBEq, reduceIte]))
  have e8 : ts.get 8 = some (.ptr h.next 0) := (hk 8 rfl).trans (by (try simp only [wk, wl, wx, reduceLT, reduceEqDiff, Nat.reduceBEq, reduceIte]))
  have e11 : ts.get 11 = some (.ptr h.next 1) := (hk 11 rfl).trans (by (try simp only [wk, wl, wx, reduceLT, reduceEqDiff, Nat.reduceBEq, reduceIte]))
  have e15 : ts.get 15 = some (.ptr h.next 2) := (hk 15 rfl).trans (by (try simp only [wk, wl, wx, reduceLT, reduceEqDiff, Nat.reduceBEq, reduceIte]))
  have e19 : ts.get 19 = some (.ptr h.next 5) := (hk 19 rfl).trans (by (try simp only [wk, wl, wx, reduceLT, reduceEqDiff, Nat.reduceBEq, reduceIte]))
  have e22 : ts.get 22 = some (.ptr h.next 6) := (hk 22 rfl).trans (by (try simp only [wk, wl, wx, reduceLT, reduceEqDiff, Nat.reduceBEq, reduceIte]))
  simp only [ss25, List.mem_cons, List.not_mem_nil, or_false, Prod.mk.injEq] at hm
  rcases hm with ⟨rfl, rfl, rfl⟩ | ⟨rfl, rfl, rfl⟩ | ⟨rfl, rfl, rfl⟩ | ⟨rfl, rfl, rfl⟩ | ⟨rfl, rfl, rfl⟩ | ⟨rfl, rfl, rfl⟩ | ⟨rfl, rfl, rfl⟩ | ⟨rfl, rfl, rfl⟩
  ·(try simp (maxSteps := 2000000) only [wk, wl, wx, reduceLT, reduceEqDiff, Nat.reduceBEq, reduceIte, wd, Chk, and_true, true_and, WStp, e8, e9, e11, e12, e15, e16, e19, e20, e22, e23])
   refine sat_literal ty27 rfl ty5 rfl (by decide) (by decide) rfl rfl ?_
   intro k3 b3 n3 f3
   have bk3 := bk.fix f3 (by omega)
   (try simp (maxSteps := 2000000) only [wk, wl, wx, reduceLT, reduceEqDiff, Nat.reduceBEq, reduceIte, wd, Chk, and_true, true_and, e8, e9, e11, e12, e15, e16, e19, e20, e22, e23, bk3.at ty9 rfl, bk3.at ty27 rfl, bk3.at ty30 rfl])
   exact ⟨_, rfl, f3, k.next, rfl, by omega, by omega, _, _, _, _, b3⟩
  ·obtain ⟨v, v1, b, rfl, v2, v3, t, N, dd, kk, v4⟩ := hd _ _ _ (show ((⟨2, true, false, [15, 12, 8, 4, 1]⟩, 10, []) : Stp × Nat × List Nat) ∈ ss25 by simp [ss25]) (by simp)
   (try simp (maxSteps := 2000000) only [wk, wl, wx, reduceLT, reduceEqDiff, Nat.reduceBEq, reduceIte, wd, Chk, and_true, true_and, WStp, e8, e9, e11, e12, e15, e16, e19, e20, e22, e23, v1])
   refine sat_app0 (m := (o.code.map u8).length) (ws := o.code.map u8) v4 v3 ty27 rfl ty27 (.inl ⟨_, rfl⟩) ty5 rfl (by decide) (by decide) (by simpa using Sl.len ob.code) (by simpa using Sl.cells ob.code) (by simp) one_u8 (by simp; omega) ?_
   intro s3 k3 g3 o3 el3 f3 n3
   have bk3 := bk.fix f3 (by omega)
   (try simp (maxSteps := 2000000) only [wk, wl, wx, reduceLT, reduceEqDiff, Nat.reduceBEq, reduceIte, wd, Chk, and_true, true_and, e8, e9, e11, e12, e15, e16, e19, e20, e22, e23, v1, bk3.at ty9 rfl, bk3.at ty27 rfl, bk3.at ty30 rfl])
   refine ⟨_, rfl, f3, g3, fun b' o k c e => ?_, el3⟩
   obtain ⟨q1, q2⟩ := o3 _ _ _ _ e
   exact ⟨by rcases q1 with rfl | rfl <;> omega, q2⟩
  ·(try simp (maxSteps := 2000000) only [wk, wl, wx, reduceLT, reduceEqDiff, Nat.reduceBEq, reduceIte, wd, Chk, and_true, true_and, WStp, e8, e9, e11, e12, e15, e16, e19, e20, e22, e23])
   refine sat_literal ty27 rfl ty5 rfl (by decide) (by decide) rfl rfl ?_
   intro k3 b3 n3 f3
   have bk3 := bk.fix f3 (by omega)
   (try simp (maxSteps := 2000000) only [wk, wl, wx, reduceLT, reduceEqDiff, Nat.reduceBEq, reduceIte, wd, Chk, and_true, true_and, e8, e9, e11, e12, e15, e16, e19, e20, e22, e23, bk3.at ty9 rfl, bk3.at ty27 rfl, bk3.at ty30 rfl])
   exact ⟨_, rfl, f3, k.next, rfl, by omega, by omega, _, _, _, _, b3⟩
  ·obtain ⟨v, v1, b, rfl, v2, v3, t, N, dd, kk, v4⟩ := hd _ _ _ (show ((⟨6, true, false, [15, 12, 8, 4, 1]⟩, 14, []) : Stp × Nat × List Nat) ∈ ss25 by simp [ss25]) (by simp)
   (try simp (maxSteps := 2000000) only [wk, wl, wx, reduceLT, reduceEqDiff, Nat.reduceBEq, reduceIte, wd, Chk, and_true, true_and, WStp, e8, e9, e11, e12, e15, e16, e19, e20, e22, e23, v1])
   refine sat_app0 (m := (o.data.map u8).length) (ws := o.data.map u8) v4 v3 ty27 rfl ty27 (.inl ⟨_, rfl⟩) ty5 rfl (by decide) (by decide) (by simpa using Sl.len ob.data) (by simpa using Sl.cells ob.data) (by simp) one_u8 (by simp; omega) ?_
   intro s3 k3 g3 o3 el3 f3 n3
   have bk3 := bk.fix f3 (by omega)
   (try simp (maxSteps := 2000000) only [wk, wl, wx, reduceLT, reduceEqDiff, Nat.reduceBEq, reduceIte, wd, Chk, and_true, true_and, e8, e9, e11, e12, e15, e16, e19, e20, e22, e23, v1, bk3.at ty9 rfl, bk3.at ty27 rfl, bk3.at ty30 rfl])
   refine ⟨_, rfl, f3, g3, fun b' o k c e => ?_, el3⟩
   obtain ⟨q1, q2⟩ := o3 _ _ _ _ e
   exact ⟨by rcases q1 with rfl | rfl <;> omega, q2⟩
  ·(try simp (maxSteps := 2000000) only [wk, wl, wx, reduceLT, reduceEqDiff, Nat.reduceBEq, reduceIte, wd, Chk, and_true, true_and, WStp, e8, e9, e11, e12, e15, e16, e19, e20, e22, e23])
   refine sat_literal ty30 rfl ty9 rfl (by decide) (by decide) rfl rfl ?_
   intro k3 b3 n3 f3
   have bk3 := bk.fix f3 (by omega)
   (try simp (maxSteps := 2000000) only [wk, wl, wx, reduceLT, reduceEqDiff, Nat.reduceBEq, reduceIte, wd, Chk, and_true, true_and, e8, e9, e11, e12, e15, e16, e19, e20, e22, e23, bk3.at ty9 rfl, bk3.at ty27 rfl, bk3.at ty30 rfl])
   exact ⟨_, rfl, f3, k.next, rfl, by omega, by omega, _, _, _, _, b3⟩
  ·obtain ⟨v, v1, b, rfl, v2, v3, t, N, dd, kk, v4⟩ := hd _ _ _ (show ((⟨10, true, false, [15, 12, 8, 4, 1]⟩, 18, []) : Stp × Nat × List Nat) ∈ ss25 by simp [ss25]) (by simp)
   (try simp (maxSteps := 2000000) only [wk, wl, wx, reduceLT, reduceEqDiff, Nat.reduceBEq, reduceIte, wd, Chk, and_true, true_and, WStp, e8, e9, e11, e12, e15, e16, e19, e20, e22, e23, v1])
   refine sat_app0 (m := (o.needs.map V.str).length) (ws := o.needs.map V.str) v4 v3 ty30 rfl ty30 (.inl ⟨_, rfl⟩) ty9 rfl (by decide) (by decide) (by simpa using Sl.len ob.needs) (by simpa using Sl.cells ob.needs) (by simp) one_str (by simp; omega) ?_
   intro s3 k3 g3 o3 el3 f3 n3
   have bk3 := bk.fix f3 (by omega)
   (try simp (maxSteps := 2000000) only [wk, wl, wx, reduceLT, reduceEqDiff, Nat.reduceBEq, reduceIte, wd, Chk, and_true, true_and, e8, e9, e11, e12, e15, e16, e19, e20, e22, e23, v1, bk3.at ty9 rfl, bk3.at ty27 rfl, bk3.at ty30 rfl])
   refine ⟨_, rfl, f3, g3, fun b' o k c e => ?_, el3⟩
   obtain ⟨q1, q2⟩ := o3 _ _ _ _ e
   exact ⟨by rcases q1 with rfl | rfl <;> omega, q2⟩
  ·obtain ⟨x, x1, x2', x3, x4⟩ := hd _ _ _ (show ((⟨5, true, false, [15, 12, 8, 1]⟩, 13, [2]) : Stp × Nat × List Nat) ∈ ss25 by simp [ss25]) (by simp)
   obtain ⟨y, y1, y2, y3, y4⟩ := hd _ _ _ (show ((⟨9, true, false, [15, 12, 1]⟩, 17, [6]) : Stp × Nat × List Nat) ∈ ss25 by simp [ss25]) (by simp)
   obtain ⟨z, z1, z2, z3, z4⟩ := hd _ _ _ (show ((⟨13, true, false, [15, 1]⟩, 21, [10]) : Stp × Nat × List Nat) ∈ ss25 by simp [ss25]) (by simp)
   (try simp (maxSteps := 2000000) only [wk, wl, wx, reduceLT, reduceEqDiff, Nat.reduceBEq, reduceIte, wd, Chk, and_true, true_and, WStp, e8, e9, e11, e12, e15, e16, e19, e20, e22, e23, x1, y1, z1, build77 x2'.sl.one.1 y2.sl.one.1 z2.sl.one.1])
   exact ⟨_, rfl, Fix.refl _ _, x, y, z, rfl, ⟨x2', x3, x4⟩, ⟨y2, y3, y4⟩, ⟨z2, z3, z4⟩⟩
  ·(try simp (maxSteps := 2000000) only [wk, wl, wx, reduceLT, reduceEqDiff, Nat.reduceBEq, reduceIte, wd, Chk, and_true, true_and, WStp, e8, e9, e11, e12, e15, e16, e19, e20, e22, e23])
   refine wop_allocE ty77 ?_
   intro k3 b3 t3 n3 f3
   have bk3 := bk.fix f3 (by omega)
   (try simp (maxSteps := 2000000) only [wk, wl, wx, reduceLT, reduceEqDiff, Nat.reduceBEq, reduceIte, wd, Chk, and_true, true_and, e8, e9, e11, e12, e15, e16, e19, e20, e22, e23, bk3.at ty9 rfl, bk3.at ty27 rfl, bk3.at ty30 rfl])
   exact ⟨_, rfl, f3, k.next, rfl, by omega, by omega, b3, t3⟩
 ·intro ts k ff hk hd
  have x2 := ff.next
  have ob : Ob g k (· < h.next) c o := (((ob.fix f1 fun _ h => h).fix f2 fun _ _ => by omega)).fix ff fun _ _ => by omega
  have bk := c2.fix ff (by omega)
  have d2 := b2.fix ff (by omega)
  have e1 : ts.get 1 = some (.ptr h.next 0) := (hk 1 rfl).trans (by (try simp only [wk, wl, wx, reduceLT, reduceEqDiff, Nat.reduceBEq, reduceIte]))
  have e2 : ts.get 2 = some (.ptr h1.next 0) := (hk 2 rfl).trans (by (try simp only [wk, wl, wx, reduceLT, reduceEqDiff, Nat.reduceBEq, reduceIte]))
  obtain ⟨v, v1, x, y, z, rfl, ⟨x1, x3, x4⟩, ⟨y1, y3, y4⟩, ⟨z1, z3, z4⟩⟩ := hd _ _ _ (show ((⟨16, false, false, []⟩, 24, [5, 9, 13]) : Stp × Nat × List Nat) ∈ ss25 by simp [ss25]) (by simp)
  obtain ⟨w, w1, b3, rfl, w2, w3, w4, tt, tm, td, tk, w5⟩ := hd _ _ _ (show ((⟨17, true, false, [15, 12, 8, 4, 1]⟩, 3, []) : Stp × Nat × List Nat) ∈ ss25 by simp [ss25]) (by simp)
  have nx : In (fun b => h2.next ≤ b ∧ b < k.next ∧ b ≠ b3) x := fun b o n c q => ⟨(x3 _ _ _ _ q).1, (x3 _ _ _ _ q).2, by
   rintro rfl
   obtain ⟨t, m, d, kk, q'⟩ := x4 _ _ _ _ q
   rw [w5] at q'; simp at q'⟩
  have ny : In (fun b => h2.next ≤ b ∧ b < k.next ∧ b ≠ b3) y := fun b o n c q => ⟨(y3 _ _ _ _ q).1, (y3 _ _ _ _ q).2, by
   rintro rfl
   obtain ⟨t, m, d, kk, q'⟩ := y4 _ _ _ _ q
   rw [w5] at q'; simp at q'⟩
  have nz : In (fun b => h2.next ≤ b ∧ b < k.next ∧ b ≠ b3) z := fun b o n c q => ⟨(z3 _ _ _ _ q).1, (z3 _ _ _ _ q).2, by
   rintro rfl
   obtain ⟨t, m, d, kk, q'⟩ := z4 _ _ _ _ q
   rw [w5] at q'; simp at q'⟩
  (try simp (maxSteps := 2000000) only [wk, wl, wx, reduceLT, reduceEqDiff, Nat.reduceBEq, reduceIte, wd, Chk, and_true, true_and, v1, w1])
  refine sat_store w4 ty77 rfl (by simp) (by simp only [V.cells, List.all_cons, List.all_nil, x1.sl.one.2, y1.sl.one.2, z1.sl.one.2, Bool.and_true]; rfl) ?_
  intro k4 d4 n4 f4
  have d4 : Has k4 b3 [.str o.name, x, y, .nils, .nils, z, .str o.entry] := d4
  have bk4 := bk.fix f4 (by omega)
  have ob4 : Ob g k4 (· < h.next) c o := (ob.fix (K' := (· ≠ b3)) f4 (fun b hb => by omega))
  (try simp (maxSteps := 2000000) only [wk, wl, wx, reduceLT, reduceEqDiff, Nat.reduceBEq, reduceIte, wd, Chk, and_true, true_and])
  ((repeat refine WC.seq ?_); refine WC.run ?_)
  (try simp only [wk, wl, wx, reduceLT, reduceEqDiff, Nat.reduceBEq, reduceIte, e1, fa70_3, Nat.zero_add, bk4.at ty67 rfl, Sl.lenB ob4.syms ty67 rfl])
  (repeat refine WC.seq ?_)
  refine WC.block ?_
  refine WC.while (fun m fr hh => ∃ ts i sv, fr = ⟨ts, 54, [], 25, none⟩ ∧ Fix (fun b => b < k4.next ∧ b ≠ b3) k4 hh ∧ m = o.syms.length - i ∧ i ≤ o.syms.length ∧ ts.get 1 = some (.ptr h.next 0) ∧ ts.get 2 = some (.ptr h1.next 0) ∧ ts.get 3 = some (.ptr b3 0) ∧ ts.get 26 = some c.syms ∧ ts.get 27 = some (.int .i64 o.syms.length) ∧ ts.get 28 = some (.int .i64 i) ∧ Has hh b3 [.str o.name, x, y, sv, .nils, z, .str o.entry] ∧ Buf (E g) hh 95 5 sv i ((o.syms.take i).flatMap symV) ∧ In (fun b => k4.next ≤ b ∧ b < hh.next) sv) ?_ ⟨_, 0, .nils, rfl, Fix.refl _ _, rfl, by omega, ?_, ?_, ?_, ?_, ?_, ?_, d4, .nil, In.nils⟩
  ·rintro m fr hh ⟨ts, i, sv, rfl, fh, rfl, hi, t1, t2, t3, t26, t27, t28, dh, bu, nu⟩
   have xh := fh.next
   have obh := ob4.fix fh (fun b hb => ⟨by omega, by omega⟩)
   ((repeat refine WC.seq ?_); refine WC.run ?_)
   (try simp only [wk, wl, wx, reduceLT, reduceEqDiff, Nat.reduceBEq, reduceIte, t27, t28])
   (repeat refine WC.seq ?_)
   by_cases hlt : i < o.syms.length
   ·refine WC.cond (b := true) (by (try simp only [wk, wl, wx, reduceLT, reduceEqDiff, Nat.reduceBEq, reduceIte]); (try simp); (try omega)) (WC.skip ?_)
    (try simp only [wk, wl, wx, reduceLT, reduceEqDiff, Nat.reduceBEq, reduceIte])
    obtain ⟨p, p1, p2⟩ := obh.syms.at symV_length ty67 rfl ty132 rfl (by decide) rfl hlt
    have p2 := p2 hh fun _ _ _ _ _ => rfl
    (repeat refine WC.seq ?_)
    refine WC.block ?_
    ((repeat refine WC.seq ?_); refine WC.run ?_)
    (try simp only [wk, wl, wx, reduceLT, reduceEqDiff, Nat.reduceBEq, reduceIte, t26, t28, p1, p2])
    refine wop_alloc ty132 ?_
    intro h5 b5 n5 f5
    (try simp only [wk, wl, wx, reduceLT, reduceEqDiff, Nat.reduceBEq, reduceIte])
    refine sat_store b5 ty132 rfl (by decide) rfl ?_
    intro h6 b6 n6 f6
    have b6 : Has h6 hh.next (symV o.syms[i]) := b6
    have F6 : Fix (· < hh.next) hh h6 := ⟨by omega, fun c hc => by rw [f6.same c (by omega), f5.same c (by omega)]⟩
    have d6 := dh.fix F6 (by omega)
    have bu6 := bu.fix (nu.sub fun _ hx => hx.2) F6
    (try simp only [wk, wl, wx, reduceLT, reduceEqDiff, Nat.reduceBEq, reduceIte])
    ((repeat refine WC.seq ?_); refine WC.run ?_)
    have l6 : loadP (E g) h6 132 (.ptr hh.next 0) = some (.agg (symV o.syms[i])) := b6.agg ty132 rfl (show 0 + 5 ≤ (symV o.syms[i]).length from Nat.le_refl 5)
    (try simp only [wk, wl, wx, reduceLT, reduceEqDiff, Nat.reduceBEq, reduceIte, t3, fa77_3, Nat.zero_add, d6.at ty74 rfl, l6])
    refine sat_buildSlice (cs := symV o.syms[i]) ty74 rfl ty95 rfl (by decide) (by decide) (fill5 (symV_length _)) rfl ?_
    intro h7 b7 n7 f7
    have d7 := d6.fix f7 (by omega)
    have bu7 := bu6.fix (nu.sub fun b hx => (by omega : b < h6.next)) f7
    (try simp only [wk, wl, wx, reduceLT, reduceEqDiff, Nat.reduceBEq, reduceIte, t3])
    refine sat_grow bu7 (nu.sub fun b hx => (by omega : b < h7.next)) ty74 rfl ty74 (.inl ⟨_, rfl⟩) ty95 rfl (by decide) (by decide) b7.sl.len b7.sl.cells (by rfl) (symV_one _) (by simp; omega) ?_
    intro sw h8 g8
    have x8 := g8.fix.next
    have d8 := d7.fix g8.fix ⟨by omega, fun o m cc e => by have := nu _ _ _ _ e; omega⟩
    have w8 : In (fun b => k4.next ≤ b ∧ b < h8.next) sw := fun b o n c e => ⟨by
     rcases g8.own _ _ _ _ e with q | ⟨o, k, c, q⟩
     ·omega
     ·exact (nu _ _ _ _ q).1, g8.low _ _ _ _ e⟩
    (try simp only [wk, wl, wx, reduceLT, reduceEqDiff, Nat.reduceBEq, reduceIte, t3, fa77_3, Nat.zero_add])
    refine sat_store d8 ty74 (by rw [g8.buf.sl.one.1]; rfl) (by simp) (by rw [g8.buf.sl.one.1]; simp [g8.buf.sl.one.2]) ?_
    intro h9 d9 n9 f9
    rw [g8.buf.sl.one.1] at d9
    have d9 : Has h9 b3 [.str o.name, x, y, sw, .nils, z, .str o.entry] := d9
    (try simp only [wk, wl, wx, reduceLT, reduceEqDiff, Nat.reduceBEq, reduceIte])
    ((repeat refine WC.seq ?_); refine WC.run ?_)
    (try simp only [wk, wl, wx, reduceLT, reduceEqDiff, Nat.reduceBEq, reduceIte, t28, bin_add])
    refine ⟨_, ?_, _, i + 1, sw, rfl, ⟨by omega, fun b hb => ?_⟩, rfl, by omega, ?_⟩
    ·omega
    ·rw [f9.same b hb.2, g8.fix.same b ⟨by omega, fun o m cc e => by have := nu _ _ _ _ e; omega⟩, f7.same b (by omega), F6.same b (by omega), fh.same b hb]
    (try simp only [wk, wl, wx, reduceLT, reduceEqDiff, Nat.reduceBEq, reduceIte, t1, t2, t3, t26, t27])
    refine ⟨trivial, trivial, trivial, trivial, trivial, ?_, d9, ?_, w8.sub fun b hb => by omega⟩
    ·rw [wrap64 (by omega) (by omega)]; rfl
    ·rw [flat_snoc symV hlt]
     exact g8.buf.fix (K := (· ≠ b3)) (w8.sub fun b hb => by omega) f9
   ·refine WC.cond (b := false) (by (try simp only [wk, wl, wx, reduceLT, reduceEqDiff, Nat.reduceBEq, reduceIte]); (try simp); (try omega)) (WC.exit ?_)
    have : i = o.syms.length := by omega
    subst this
    rw [List.take_length] at bu
    (try simp only [wk, wl, wx, reduceLT, reduceEqDiff, Nat.reduceBEq, reduceIte])
    have nus := nu
    have bus := bu
    have bkh : Has hh h.next [.str o.name, c.code, c.data, c.syms, c.rels, c.needs, .str o.entry] := bk4.fix fh ⟨by omega, by omega⟩
    ((repeat refine WC.seq ?_); refine WC.run ?_)
    (try simp only [wk, wl, wx, reduceLT, reduceEqDiff, Nat.reduceBEq, reduceIte, t1, fa70_4, Nat.zero_add, bkh.at ty68 rfl, Sl.lenB obh.rels ty68 rfl])
    (repeat refine WC.seq ?_)
    refine WC.block ?_
    refine WC.while (fun m fr hq => ∃ ts i rv, fr = ⟨ts, 54, [], 25, none⟩ ∧ Fix (fun b => b < hh.next ∧ b ≠ b3) hh hq ∧ m = o.rels.length - i ∧ i ≤ o.rels.length ∧ ts.get 1 = some (.ptr h.next 0) ∧ ts.get 2 = some (.ptr h1.next 0) ∧ ts.get 3 = some (.ptr b3 0) ∧ ts.get 40 = some c.rels ∧ ts.get 41 = some (.int .i64 o.rels.length) ∧ ts.get 42 = some (.int .i64 i) ∧ Has hq b3 [.str o.name, x, y, sv, rv, z, .str o.entry] ∧ Buf (E g) hq 97 5 rv i ((o.rels.take i).flatMap relV) ∧ In (fun b => hh.next ≤ b ∧ b < hq.next) rv) ?_ ⟨_, 0, .nils, rfl, Fix.refl _ _, rfl, by omega, ?_, ?_, ?_, ?_, ?_, ?_, dh, .nil, In.nils⟩
    ·rintro m fr hq ⟨ts, i, rv, rfl, fq, rfl, hi, t1, t2, t3, t40, t41, t42, dq, bu, nu⟩
     have xq := fq.next
     have obq := obh.fix fq (fun b hb => ⟨by omega, by omega⟩)
     ((repeat refine WC.seq ?_); refine WC.run ?_)
     (try simp only [wk, wl, wx, reduceLT, reduceEqDiff, Nat.reduceBEq, reduceIte, t41, t42])
     (repeat refine WC.seq ?_)
     by_cases hlt : i < o.rels.length
     ·refine WC.cond (b := true) (by (try simp only [wk, wl, wx, reduceLT, reduceEqDiff, Nat.reduceBEq, reduceIte]); (try simp); (try omega)) (WC.skip ?_)
      (try simp only [wk, wl, wx, reduceLT, reduceEqDiff, Nat.reduceBEq, reduceIte])
      obtain ⟨p, p1, p2⟩ := obq.rels.at relV_length ty68 rfl ty127 rfl (by decide) rfl hlt
      have p2 := p2 hq fun _ _ _ _ _ => rfl
      (repeat refine WC.seq ?_)
      refine WC.block ?_
      ((repeat refine WC.seq ?_); refine WC.run ?_)
      (try simp only [wk, wl, wx, reduceLT, reduceEqDiff, Nat.reduceBEq, reduceIte, t40, t42, p1, p2])
      refine wop_alloc ty127 ?_
      intro h5 b5 n5 f5
      (try simp only [wk, wl, wx, reduceLT, reduceEqDiff, Nat.reduceBEq, reduceIte])
      refine sat_store b5 ty127 rfl (by decide) rfl ?_
      intro h6 b6 n6 f6
      have b6 : Has h6 hq.next (relV o.rels[i]) := b6
      have F6 : Fix (· < hq.next) hq h6 := ⟨by omega, fun c hc => by rw [f6.same c (by omega), f5.same c (by omega)]⟩
      have d6 := dq.fix F6 (by omega)
      have bu6 := bu.fix (nu.sub fun _ hx => hx.2) F6
      (try simp only [wk, wl, wx, reduceLT, reduceEqDiff, Nat.reduceBEq, reduceIte])
      ((repeat refine WC.seq ?_); refine WC.run ?_)
      have l6 : loadP (E g) h6 127 (.ptr hq.next 0) = some (.agg (relV o.rels[i])) := b6.agg ty127 rfl (show 0 + 5 ≤ (relV o.rels[i]).length from Nat.le_refl 5)
      (try simp only [wk, wl, wx, reduceLT, reduceEqDiff, Nat.reduceBEq, reduceIte, t3, fa77_4, Nat.zero_add, d6.at ty75 rfl, l6])
      refine sat_buildSlice (cs := relV o.rels[i]) ty75 rfl ty97 rfl (by decide) (by decide) (fill5 (relV_length _)) rfl ?_
      intro h7 b7 n7 f7
      have d7 := d6.fix f7 (by omega)
      have bu7 := bu6.fix (nu.sub fun b hx => (by omega : b < h6.next)) f7
      (try simp only [wk, wl, wx, reduceLT, reduceEqDiff, Nat.reduceBEq, reduceIte, t3])
      refine sat_grow bu7 (nu.sub fun b hx => (by omega : b < h7.next)) ty75 rfl ty75 (.inl ⟨_, rfl⟩) ty97 rfl (by decide) (by decide) b7.sl.len b7.sl.cells (by rfl) (relV_one _) (by simp; omega) ?_
      intro sw h8 g8
      have x8 := g8.fix.next
      have d8 := d7.fix g8.fix ⟨by omega, fun o m cc e => by have := nu _ _ _ _ e; omega⟩
      have w8 : In (fun b => hh.next ≤ b ∧ b < h8.next) sw := fun b o n c e => ⟨by
       rcases g8.own _ _ _ _ e with q | ⟨o, k, c, q⟩
       ·omega
       ·exact (nu _ _ _ _ q).1, g8.low _ _ _ _ e⟩
      (try simp only [wk, wl, wx, reduceLT, reduceEqDiff, Nat.reduceBEq, reduceIte, t3, fa77_4, Nat.zero_add])
      refine sat_store d8 ty75 (by rw [g8.buf.sl.one.1]; rfl) (by simp) (by rw [g8.buf.sl.one.1]; simp [g8.buf.sl.one.2]) ?_
      intro h9 d9 n9 f9
      rw [g8.buf.sl.one.1] at d9
      have d9 : Has h9 b3 [.str o.name, x, y, sv, sw, z, .str o.entry] := d9
      (try simp only [wk, wl, wx, reduceLT, reduceEqDiff, Nat.reduceBEq, reduceIte])
      ((repeat refine WC.seq ?_); refine WC.run ?_)
      (try simp only [wk, wl, wx, reduceLT, reduceEqDiff, Nat.reduceBEq, reduceIte, t42, bin_add])
      refine ⟨_, ?_, _, i + 1, sw, rfl, ⟨by omega, fun b hb => ?_⟩, rfl, by omega, ?_⟩
      ·omega
      ·rw [f9.same b hb.2, g8.fix.same b ⟨by omega, fun o m cc e => by have := nu _ _ _ _ e; omega⟩, f7.same b (by omega), F6.same b (by omega), fq.same b hb]
      (try simp only [wk, wl, wx, reduceLT, reduceEqDiff, Nat.reduceBEq, reduceIte, t1, t2, t3, t40, t41])
      refine ⟨trivial, trivial, trivial, trivial, trivial, ?_, d9, ?_, w8.sub fun b hb => by omega⟩
      ·rw [wrap64 (by omega) (by omega)]; rfl
      ·rw [flat_snoc relV hlt]
       exact g8.buf.fix (K := (· ≠ b3)) (w8.sub fun b hb => by omega) f9
     ·refine WC.cond (b := false) (by (try simp only [wk, wl, wx, reduceLT, reduceEqDiff, Nat.reduceBEq, reduceIte]); (try simp); (try omega)) (WC.exit ?_)
      have : i = o.rels.length := by omega
      subst this
      rw [List.take_length] at bu
      (try simp only [wk, wl, wx, reduceLT, reduceEqDiff, Nat.reduceBEq, reduceIte])
      have Fq : Fix (fun b => b < k.next ∧ b ≠ b3) k hq := ⟨by omega, fun b hb => by rw [fq.same b ⟨by omega, hb.2⟩, fh.same b ⟨by omega, hb.2⟩, f4.same b hb.2]⟩
      have lz : loadP (E g) hq 77 (.ptr b3 0) = some (.agg [.str o.name, x, y, sv, rv, z, .str o.entry]) := dq.agg ty77 rfl (Nat.le_refl 7)
      have d2q := d2.fix Fq ⟨by omega, by omega⟩
      ((repeat refine WC.seq ?_); refine WC.run ?_)
      (try simp only [wk, wl, wx, reduceLT, reduceEqDiff, Nat.reduceBEq, reduceIte, t2, t3, lz])
      refine sat_store d2q ty77 rfl (Nat.le_refl 7) (by simp only [V.cells, List.all_cons, List.all_nil, x1.sl.one.2, y1.sl.one.2, z1.sl.one.2, bus.sl.one.2, bu.sl.one.2, Bool.and_true]; rfl) ?_
      intro hr dr nr fr'
      have dr : Has hr h1.next [.str o.name, x, y, sv, rv, z, .str o.entry] := dr
      have lr : loadP (E g) hr 77 (.ptr h1.next 0) = some (.agg [.str o.name, x, y, sv, rv, z, .str o.entry]) := dr.agg ty77 rfl (Nat.le_refl 7)
      (try simp only [wk, wl, wx, reduceLT, reduceEqDiff, Nat.reduceBEq, reduceIte])
      refine WC.ret ?_
      (try simp only [wk, wl, wx, reduceLT, reduceEqDiff, Nat.reduceBEq, reduceIte, t2, lr])
      have FF : Fix (fun b => b ≠ h1.next) hq hr := fr'
      refine ⟨⟨x, y, sv, rv, z⟩, rfl, ?_, ?_⟩
      ·have ff (K : Nat → Prop) (hK : ∀ b, K b → h2.next ≤ b ∧ b < k.next ∧ b ≠ b3) : Fix K k hr := ⟨by omega, fun b hb => by
        have := hK b hb
        rw [FF.same b (by omega), Fq.same b ⟨by omega, by omega⟩]⟩
       have q1 := x1.fix nx (ff _ fun _ h => h)
       have q2 := y1.fix ny (ff _ fun _ h => h)
       have q3 := z1.fix nz (ff _ fun _ h => h)
       have q4 := (bus.fix (nus.sub fun b hb => (⟨by omega, by omega⟩ : b < hh.next ∧ b ≠ b3)) fq).fix (nus.sub fun b hb => (by omega : b ≠ h1.next)) FF
       have q5 := bu.fix (nu.sub fun b hb => (by omega : b ≠ h1.next)) FF
       exact ⟨by simpa using q1.sl, by simpa using q2.sl, q4.sl, q5.sl, by simpa using q3.sl, nx.sub fun b hb => by omega, ny.sub fun b hb => by omega, nus.sub fun b hb => by omega, nu.sub fun b hb => by omega, nz.sub fun b hb => by omega⟩
      ·exact ⟨by omega, fun b hb => by rw [fr'.same b (by omega), Fq.same b ⟨by omega, by omega⟩, ff.same b (by omega), f2.same b (by omega), f1.same b hb]⟩
    all_goals (try simp only [wk, wl, wx, reduceLT, reduceEqDiff, Nat.reduceBEq, reduceIte, t1, t2, t3])
    all_goals (first | trivial | rfl | simp)
  all_goals (try simp only [wk, wl, wx, reduceLT, reduceEqDiff, Nat.reduceBEq, reduceIte, e1, e2, w1])
  all_goals (first | trivial | rfl | simp)
end Go.Proofs.OP
