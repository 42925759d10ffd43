/- Walks: Index, overlap, copies of images, what is given to Load. Printed by genS10.py. -/
import Derived.Test.YtloblhhnlaaajaaDoorV15
import Derived.Test.YtloblhhnlaaajaaDoorV31
import Derived.Test.YtloblhhnlaaajaaDoorV17
set_option linter.unusedVariables false
set_option linter.unusedSimpArgs false
set_option linter.defProp false
set_option linter.unusedSimpArgs false
namespace Go.Proofs.OP
open Go Go.Ev
open Go.Proofs
open Nat (reduceLT reduceEqDiff)
variable {g : T (List V)}

set_option maxRecDepth 100000 in
set_option maxHeartbeats 4000000 in
theorem idxS_ok {h : H} {s : V} {L : List (List UInt8)} {k : (List UInt8)} (a : Ss g h s L) (hM : L.length < 2 ^ 62) :
  WF (E g) 103 [s, .str k] h fun v h' => v = .int .i64 (idxI (fun x => k == x) L) ∧ h' = h := by
 refine WF.enter fn103 rfl ?_
 ((repeat refine WC.seq ?_); refine WC.run ?_)
 (try simp only [wk, wl, wx, reduceLT, reduceEqDiff, Nat.reduceBEq, reduceIte])
 ((repeat refine WC.seq ?_); refine WC.run ?_)
 (try simp only [wk, wl, wx, reduceLT, reduceEqDiff, Nat.reduceBEq, reduceIte, Sl.lenB a ty30 rfl])
 (repeat refine WC.seq ?_)
 refine WC.block ?_
 refine WC.while (fun m fr hh => ∃ ts i, fr = ⟨ts, 19, [], 103, none⟩ ∧ hh = h ∧ m = L.length - i ∧ i ≤ L.length ∧ ts.get 0 = some s ∧ ts.get 1 = some (.str k) ∧ ts.get 7 = some (.int .i64 L.length) ∧ ts.get 8 = some (.int .i64 i) ∧ ∀ j (hj : j < L.length), j < i → (fun x => k == x) L[j] = false) ?_ ⟨_, 0, rfl, rfl, rfl, by omega, ?_, ?_, ?_, ?_, fun j hj hji => absurd hji (Nat.not_lt_zero _)⟩
 ·rintro m fr hh ⟨ts, i, rfl, rfl, rfl, hi, t0, t1, t7, t8, hno⟩
  ((repeat refine WC.seq ?_); refine WC.run ?_)
  (try simp only [wk, wl, wx, reduceLT, reduceEqDiff, Nat.reduceBEq, reduceIte, t7, t8])
  (repeat refine WC.seq ?_)
  by_cases hlt : i < L.length
  ·refine WC.cond (b := true) (by (try simp only [wk, wl, wx, reduceLT, reduceEqDiff, Nat.reduceBEq, reduceIte]); (try simp); (try omega)) (WC.skip ?_)
   (try simp only [wk, wl, wx, reduceLT, reduceEqDiff, Nat.reduceBEq, reduceIte])
   obtain ⟨p, p1, p2⟩ := a.at ty30 rfl ty9 rfl rfl hlt
   have p2 := p2 hh fun _ _ _ _ _ => rfl
   (repeat refine WC.seq ?_)
   refine WC.block ?_
   ((repeat refine WC.seq ?_); refine WC.run ?_)
   (try simp only [wk, wl, wx, reduceLT, reduceEqDiff, Nat.reduceBEq, reduceIte, t8])
   ((repeat refine WC.seq ?_); refine WC.run ?_)
   (try simp only [wk, wl, wx, reduceLT, reduceEqDiff, Nat.reduceBEq, reduceIte, t0, t1, p1, p2, bin_seql, i64])
   (repeat refine WC.seq ?_)
   cases hb : (k == L[i]) with
   | true =>
    refine WC.cond (b := true) (by (try simp only [wk, wl, wx, reduceLT, reduceEqDiff, Nat.reduceBEq, reduceIte, hb]); (try simp); (try omega)) ?_
    ((repeat refine WC.seq ?_); refine WC.run ?_)
    (try simp only [wk, wl, wx, reduceLT, reduceEqDiff, Nat.reduceBEq, reduceIte])
    refine WC.ret ?_
    (try simp only [wk, wl, wx, reduceLT, reduceEqDiff, Nat.reduceBEq, reduceIte])
    exact ⟨by rw [idxI, fstI_at hlt hno hb], by trivial⟩
   | false =>
    refine WC.cond (b := false) (by (try simp only [wk, wl, wx, reduceLT, reduceEqDiff, Nat.reduceBEq, reduceIte, hb]); (try simp); (try omega)) (WC.skip ?_)
    (try simp only [wk, wl, wx, reduceLT, reduceEqDiff, Nat.reduceBEq, reduceIte])
    ((repeat refine WC.seq ?_); refine WC.run ?_)
    (try simp only [wk, wl, wx, reduceLT, reduceEqDiff, Nat.reduceBEq, reduceIte, t8, bin_add])
    refine ⟨_, ?_, _, i + 1, rfl, by trivial, rfl, by omega, ?_⟩
    ·omega
    (try simp only [wk, wl, wx, reduceLT, reduceEqDiff, Nat.reduceBEq, reduceIte, t0, t1, t7])
    refine ⟨trivial, trivial, trivial, ?_, fun j hj hji => ?_⟩
    ·rw [wrap64 (by omega) (by omega)]; rfl
    ·rcases Nat.lt_succ_iff_lt_or_eq.1 hji with q | rfl
     ·exact hno j hj q
     ·exact hb
  ·refine WC.cond (b := false) (by (try simp only [wk, wl, wx, reduceLT, reduceEqDiff, Nat.reduceBEq, reduceIte]); (try simp); (try omega)) (WC.exit ?_)
   have : i = L.length := by omega
   subst this
   (try simp only [wk, wl, wx, reduceLT, reduceEqDiff, Nat.reduceBEq, reduceIte])
   ((repeat refine WC.seq ?_); refine WC.run ?_)
   (try simp only [wk, wl, wx, reduceLT, reduceEqDiff, Nat.reduceBEq, reduceIte])
   refine WC.ret ?_
   (try simp only [wk, wl, wx, reduceLT, reduceEqDiff, Nat.reduceBEq, reduceIte])
   exact ⟨by rw [idxI, fstI_none fun j hj => hno j hj hj], by trivial⟩
 all_goals (try simp only [wk, wl, wx, reduceLT, reduceEqDiff, Nat.reduceBEq, reduceIte])
 all_goals simp
set_option maxRecDepth 100000 in
set_option maxHeartbeats 4000000 in
theorem idxN_ok {h : H} {s : V} {L : List Int} {k : Int} (a : Is g h s L) (hM : L.length < 2 ^ 62) :
  WF (E g) 123 [s, .int .i64 k] h fun v h' => v = .int .i64 (idxI (fun x => k == x) L) ∧ h' = h := by
 refine WF.enter fn123 rfl ?_
 ((repeat refine WC.seq ?_); refine WC.run ?_)
 (try simp only [wk, wl, wx, reduceLT, reduceEqDiff, Nat.reduceBEq, reduceIte])
 ((repeat refine WC.seq ?_); refine WC.run ?_)
 (try simp only [wk, wl, wx, reduceLT, reduceEqDiff, Nat.reduceBEq, reduceIte, Sl.lenB a ty211 rfl])
 (repeat refine WC.seq ?_)
 refine WC.block ?_
 refine WC.while (fun m fr hh => ∃ ts i, fr = ⟨ts, 19, [], 123, none⟩ ∧ hh = h ∧ m = L.length - i ∧ i ≤ L.length ∧ ts.get 0 = some s ∧ ts.get 1 = some (.int .i64 k) ∧ ts.get 7 = some (.int .i64 L.length) ∧ ts.get 8 = some (.int .i64 i) ∧ ∀ j (hj : j < L.length), j < i → (fun x => k == x) L[j] = false) ?_ ⟨_, 0, rfl, rfl, rfl, by omega, ?_, ?_, ?_, ?_, fun j hj hji => absurd hji (Nat.not_lt_zero _)⟩
 ·rintro m fr hh ⟨ts, i, rfl, rfl, rfl, hi, t0, t1, t7, t8, hno⟩
  ((repeat refine WC.seq ?_); refine WC.run ?_)
  (try simp only [wk, wl, wx, reduceLT, reduceEqDiff, Nat.reduceBEq, reduceIte, t7, t8])
  (repeat refine WC.seq ?_)
  by_cases hlt : i < L.length
  ·refine WC.cond (b := true) (by (try simp only [wk, wl, wx, reduceLT, reduceEqDiff, Nat.reduceBEq, reduceIte]); (try simp); (try omega)) (WC.skip ?_)
   (try simp only [wk, wl, wx, reduceLT, reduceEqDiff, Nat.reduceBEq, reduceIte])
   obtain ⟨p, p1, p2⟩ := a.at ty211 rfl ty3 rfl rfl hlt
   have p2 := p2 hh fun _ _ _ _ _ => rfl
   (repeat refine WC.seq ?_)
   refine WC.block ?_
   ((repeat refine WC.seq ?_); refine WC.run ?_)
   (try simp only [wk, wl, wx, reduceLT, reduceEqDiff, Nat.reduceBEq, reduceIte, t8])
   ((repeat refine WC.seq ?_); refine WC.run ?_)
   (try simp only [wk, wl, wx, reduceLT, reduceEqDiff, Nat.reduceBEq, reduceIte, t0, t1, p1, p2, bin_seql, i64])
   (repeat refine WC.seq ?_)
   cases hb : (k == L[i]) with
   | true =>
    refine WC.cond (b := true) (by (try simp only [wk, wl, wx, reduceLT, reduceEqDiff, Nat.reduceBEq, reduceIte, hb]); (try simp); (try omega)) ?_
    ((repeat refine WC.seq ?_); refine WC.run ?_)
    (try simp only [wk, wl, wx, reduceLT, reduceEqDiff, Nat.reduceBEq, reduceIte])
    refine WC.ret ?_
    (try simp only [wk, wl, wx, reduceLT, reduceEqDiff, Nat.reduceBEq, reduceIte])
    exact ⟨by rw [idxI, fstI_at hlt hno hb], by trivial⟩
   | false =>
    refine WC.cond (b := false) (by (try simp only [wk, wl, wx, reduceLT, reduceEqDiff, Nat.reduceBEq, reduceIte, hb]); (try simp); (try omega)) (WC.skip ?_)
    (try simp only [wk, wl, wx, reduceLT, reduceEqDiff, Nat.reduceBEq, reduceIte])
    ((repeat refine WC.seq ?_); refine WC.run ?_)
    (try simp only [wk, wl, wx, reduceLT, reduceEqDiff, Nat.reduceBEq, reduceIte, t8, bin_add])
    refine ⟨_, ?_, _, i + 1, rfl, by trivial, rfl, by omega, ?_⟩
    ·omega
    (try simp only [wk, wl, wx, reduceLT, reduceEqDiff, Nat.reduceBEq, reduceIte, t0, t1, t7])
    refine ⟨trivial, trivial, trivial, ?_, fun j hj hji => ?_⟩
    ·rw [wrap64 (by omega) (by omega)]; rfl
    ·rcases Nat.lt_succ_iff_lt_or_eq.1 hji with q | rfl
     ·exact hno j hj q
     ·exact hb
  ·refine WC.cond (b := false) (by (try simp only [wk, wl, wx, reduceLT, reduceEqDiff, Nat.reduceBEq, reduceIte]); (try simp); (try omega)) (WC.exit ?_)
   have : i = L.length := by omega
   subst this
   (try simp only [wk, wl, wx, reduceLT, reduceEqDiff, Nat.reduceBEq, reduceIte])
   ((repeat refine WC.seq ?_); refine WC.run ?_)
   (try simp only [wk, wl, wx, reduceLT, reduceEqDiff, Nat.reduceBEq, reduceIte])
   refine WC.ret ?_
   (try simp only [wk, wl, wx, reduceLT, reduceEqDiff, Nat.reduceBEq, reduceIte])
   exact ⟨by rw [idxI, fstI_none fun j hj => hno j hj hj], by trivial⟩
 all_goals (try simp only [wk, wl, wx, reduceLT, reduceEqDiff, Nat.reduceBEq, reduceIte])
 all_goals simp

theorem idxI_nonneg {α : Type} {P : α → Bool} {L : List α} : decide (0 ≤ idxI P L) = L.any P := by
 unfold idxI
 cases hf : fstI P L with
 | none =>
  have : L.any P = false := by
   induction L with
   | nil => rfl
   | cons x r ih =>
    rw [fstI] at hf
    split at hf
    ·cases hf
    ·rename_i hx
     rw [List.any_cons, ih (by simpa using hf)]; simp [Bool.eq_false_iff.2 hx]
  rw [this]; rfl
 | some k =>
  obtain ⟨hk, hp⟩ := fstI_some hf
  have : L.any P = true := List.any_eq_true.2 ⟨_, List.getElem_mem hk, hp⟩
  rw [this]; simp
set_option maxRecDepth 100000 in
set_option maxHeartbeats 4000000 in
theorem containsN_ok {h : H} {s : V} {L : List Int} {k : Int} (a : Is g h s L) (hM : L.length < 2 ^ 62) :
  WF (E g) 104 [s, .int .i64 k] h fun v h' => v = .bool (L.contains k) ∧ h' = h := by
 refine WF.enter fn104 rfl ?_
 ((repeat refine WC.seq ?_); refine WC.run ?_)
 (try simp only [wk, wl, wx, reduceLT, reduceEqDiff, Nat.reduceBEq, reduceIte])
 ((repeat refine WC.seq ?_); refine WC.run ?_)
 (try simp only [wk, wl, wx, reduceLT, reduceEqDiff, Nat.reduceBEq, reduceIte])
 refine (idxN_ok a hM).mono fun v h1 ⟨e, f1⟩ => ?_
 subst e f1
 (try simp only [wk, wl, wx, reduceLT, reduceEqDiff, Nat.reduceBEq, reduceIte])
 (repeat refine WC.seq ?_)
 refine WC.ret ?_
 (try simp only [wk, wl, wx, reduceLT, reduceEqDiff, Nat.reduceBEq, reduceIte])
 refine ⟨?_, by trivial⟩
 rw [idxI_nonneg, List.contains_eq_any_beq]
def ovl (x y : ImgD) : Bool := decide (x.base < y.base + y.bytes.length) && decide (y.base < x.base + x.bytes.length)
def Tame (x : ImgD) : Prop := 0 ≤ x.base ∧ x.base ≤ 2 ^ 40 ∧ x.bytes.length ≤ 2 ^ 40
theorem tame_of {x : ImgD} (sm : SmallI x) : Tame x := by
 obtain ⟨a1, a2, -, a4, -⟩ := sm.head
 exact ⟨a1, by omega, by omega⟩
set_option maxRecDepth 100000 in
set_option maxHeartbeats 4000000 in
theorem overlap_ok {h : H} {c d : Ic} {x y : ImgD} (hx : Im g h (· < h.next) c x) (hy : Im g h (· < h.next) d y) (tx : Tame x) (ty : Tame y) : WF (E g) 107 [.agg (c.cells x), .agg (d.cells y)] h fun v h' => v = .bool (ovl x y) ∧ Kept h h' := by
 obtain ⟨x1, x2, x3⟩ := tx
 obtain ⟨y1, y2, y3⟩ := ty
 refine WF.enter fn107 rfl ?_
 ((repeat refine WC.seq ?_); refine WC.run ?_)
 (try simp only [wk, wl, wx, reduceLT, reduceEqDiff, Nat.reduceBEq, reduceIte])
 refine wop_box (v := .agg (c.cells x)) (by (try simp only [wk, wl, wx, reduceLT, reduceEqDiff, Nat.reduceBEq, reduceIte])) ?_
 intro h1 b1 n1 f1
 (try simp only [wk, wl, wx, reduceLT, reduceEqDiff, Nat.reduceBEq, reduceIte])
 have b1 : Has h1 h.next [i64 x.base, c.bytes, i64 x.code, i64 x.entry, c.exps, c.slots, c.needs] := b1
 refine wop_box (v := .agg (d.cells y)) (by (try simp only [wk, wl, wx, reduceLT, reduceEqDiff, Nat.reduceBEq, reduceIte])) ?_
 intro h2 b2 n2 f2
 (try simp only [wk, wl, wx, reduceLT, reduceEqDiff, Nat.reduceBEq, reduceIte])
 have b2 : Has h2 h1.next [i64 y.base, d.bytes, i64 y.code, i64 y.entry, d.exps, d.slots, d.needs] := b2
 have a2 := b1.fix f2 (by omega)
 have F2 : Kept h h2 := f1.trans (f2.sub fun b hb => by omega)
 have e1 : lenB (E g) h2 27 c.bytes = some (.int .i64 x.bytes.length) := Bs.len hx.bytes
 have e2 : lenB (E g) h2 27 d.bytes = some (.int .i64 y.bytes.length) := Bs.len hy.bytes
 have w1 : IntKind.i64.wrap (y.base + y.bytes.length) = y.base + y.bytes.length := wrap64 (by omega) (by omega)
 have w2 : IntKind.i64.wrap (x.base + x.bytes.length) = x.base + x.bytes.length := wrap64 (by omega) (by omega)
 ((repeat refine WC.seq ?_); refine WC.run ?_)
 by_cases q : x.base < y.base + y.bytes.length
 ·(try simp only [wk, wl, wx, reduceLT, reduceEqDiff, Nat.reduceBEq, reduceIte, fa32_0, fa32_1, Nat.zero_add, a2.at ty2 rfl, a2.at ty27 rfl, b2.at ty2 rfl, b2.at ty27 rfl, e1, e2, i64, bin_add, w1, w2, decide_eq_true q, un])
  refine WC.ret ?_
  (try simp only [wk, wl, wx, reduceLT, reduceEqDiff, Nat.reduceBEq, reduceIte])
  exact ⟨by rw [ovl, decide_eq_true q, Bool.true_and], F2⟩
 ·(try simp only [wk, wl, wx, reduceLT, reduceEqDiff, Nat.reduceBEq, reduceIte, fa32_0, fa32_1, Nat.zero_add, a2.at ty2 rfl, a2.at ty27 rfl, b2.at ty2 rfl, b2.at ty27 rfl, e1, e2, i64, bin_add, w1, w2, decide_eq_false q, un])
  refine WC.ret ?_
  (try simp only [wk, wl, wx, reduceLT, reduceEqDiff, Nat.reduceBEq, reduceIte])
  exact ⟨by rw [ovl, decide_eq_false q, Bool.false_and], F2⟩
structure Ims (g : T (List V)) (h : H) (K : Nat → Prop) (s : V) (L : List (Ic × ImgD)) : Prop where
 sl : Rcs (E g) h 7 (fun p => p.1.cells p.2) s L
 ins : In K s
 im : ∀ p ∈ L, Im g h K p.1 p.2
theorem Ims.fix {h h' : H} {K K' : Nat → Prop} {s : V} {L : List (Ic × ImgD)} (a : Ims g h K s L) (f : Fix K' h h') (hs : ∀ b, K b → K' b) : Ims g h' K' s L :=
 ⟨Sl.fix a.sl (a.ins.sub hs) f, a.ins.sub hs, fun p hp => ((a.im p hp).fix f hs).up hs⟩
theorem Ims.up {h : H} {K K' : Nat → Prop} {s : V} {L : List (Ic × ImgD)} (a : Ims g h K s L) (hs : ∀ b, K b → K' b) : Ims g h K' s L :=
 ⟨a.sl, a.ins.sub hs, fun p hp => (a.im p hp).up hs⟩
set_option maxRecDepth 100000 in
set_option maxHeartbeats 4000000 in
theorem indexI_ok {h : H} {s : V} {L : List (Ic × ImgD)} {P : (Ic × ImgD) → Bool} {cap : List V} (a : Rcs (E g) h 7 (fun p => p.1.cells p.2) s L) (hs : In (· < h.next) s) (hM : L.length < 2 ^ 62)
  (hcl : ∀ h' x, Kept h h' → x ∈ L → WF (E g) 106 ([.agg ((fun p : Ic × ImgD => p.1.cells p.2) x)] ++ cap) h' fun v h'' => v = .bool (P x) ∧ Kept h' h'') :
  WF (E g) 124 [s, .func 106 [] cap] h fun v h' => v = .int .i64 (idxI P L) ∧ Kept h h' := by
 refine WF.enter fn124 rfl ?_
 ((repeat refine WC.seq ?_); refine WC.run ?_)
 (try simp only [wk, wl, wx, reduceLT, reduceEqDiff, Nat.reduceBEq, reduceIte])
 ((repeat refine WC.seq ?_); refine WC.run ?_)
 (try simp only [wk, wl, wx, reduceLT, reduceEqDiff, Nat.reduceBEq, reduceIte, Sl.lenB a ty108 rfl])
 (repeat refine WC.seq ?_)
 refine WC.block ?_
 refine WC.while (fun m fr hh => ∃ ts i, fr = ⟨ts, 19, [], 124, none⟩ ∧ Kept h hh ∧ m = L.length - i ∧ i ≤ L.length ∧ ts.get 0 = some s ∧ ts.get 1 = some (.func 106 [] cap) ∧ ts.get 7 = some (.int .i64 L.length) ∧ ts.get 8 = some (.int .i64 i) ∧ ∀ j (hj : j < L.length), j < i → P L[j] = false) ?_ ⟨_, 0, rfl, Fix.refl _ _, rfl, by omega, ?_, ?_, ?_, ?_, fun j hj hji => absurd hji (Nat.not_lt_zero _)⟩
 ·rintro m fr hh ⟨ts, i, rfl, ff, rfl, hi, t0, t1, t7, t8, hno⟩
  ((repeat refine WC.seq ?_); refine WC.run ?_)
  (try simp only [wk, wl, wx, reduceLT, reduceEqDiff, Nat.reduceBEq, reduceIte, t7, t8])
  (repeat refine WC.seq ?_)
  by_cases hlt : i < L.length
  ·refine WC.cond (b := true) (by (try simp only [wk, wl, wx, reduceLT, reduceEqDiff, Nat.reduceBEq, reduceIte]); (try simp); (try omega)) (WC.skip ?_)
   (try simp only [wk, wl, wx, reduceLT, reduceEqDiff, Nat.reduceBEq, reduceIte])
   obtain ⟨p, p1, p2⟩ := a.at (fun _ => rfl) ty108 rfl ty32 rfl (by decide) rfl hlt
   have p2 := p2 hh fun b o m c e => ff.same b (hs _ _ _ _ e)
   have hmem := List.getElem_mem hlt
   (repeat refine WC.seq ?_)
   refine WC.block ?_
   ((repeat refine WC.seq ?_); refine WC.run ?_)
   (try simp only [wk, wl, wx, reduceLT, reduceEqDiff, Nat.reduceBEq, reduceIte, t8])
   ((repeat refine WC.seq ?_); refine WC.run ?_)
   (try simp only [wk, wl, wx, reduceLT, reduceEqDiff, Nat.reduceBEq, reduceIte, t0, t1, p1, p2])
   refine (hcl hh L[i] ff hmem).mono fun v h2 ⟨e2, f2⟩ => ?_
   subst e2
   (try simp only [wk, wl, wx, reduceLT, reduceEqDiff, Nat.reduceBEq, reduceIte])
   (repeat refine WC.seq ?_)
   cases hb : P L[i] with
   | true =>
    refine WC.cond (b := true) (by (try simp only [wk, wl, wx, reduceLT, reduceEqDiff, Nat.reduceBEq, reduceIte, hb]); (try simp); (try omega)) ?_
    ((repeat refine WC.seq ?_); refine WC.run ?_)
    (try simp only [wk, wl, wx, reduceLT, reduceEqDiff, Nat.reduceBEq, reduceIte])
    refine WC.ret ?_
    (try simp only [wk, wl, wx, reduceLT, reduceEqDiff, Nat.reduceBEq, reduceIte])
    exact ⟨by rw [idxI, fstI_at hlt hno hb], ff.trans (f2.sub fun x hx => Nat.lt_of_lt_of_le hx ff.next)⟩
   | false =>
    refine WC.cond (b := false) (by (try simp only [wk, wl, wx, reduceLT, reduceEqDiff, Nat.reduceBEq, reduceIte, hb]); (try simp); (try omega)) (WC.skip ?_)
    (try simp only [wk, wl, wx, reduceLT, reduceEqDiff, Nat.reduceBEq, reduceIte])
    ((repeat refine WC.seq ?_); refine WC.run ?_)
    (try simp only [wk, wl, wx, reduceLT, reduceEqDiff, Nat.reduceBEq, reduceIte, t8, bin_add])
    refine ⟨_, ?_, _, i + 1, rfl, ff.trans (f2.sub fun x hx => Nat.lt_of_lt_of_le hx ff.next), rfl, by omega, ?_⟩
    ·omega
    (try simp only [wk, wl, wx, reduceLT, reduceEqDiff, Nat.reduceBEq, reduceIte, t0, t1, t7])
    refine ⟨trivial, trivial, trivial, ?_, fun j hj hji => ?_⟩
    ·rw [wrap64 (by omega) (by omega)]; rfl
    ·rcases Nat.lt_succ_iff_lt_or_eq.1 hji with q | rfl
     ·exact hno j hj q
     ·exact hb
  ·refine WC.cond (b := false) (by (try simp only [wk, wl, wx, reduceLT, reduceEqDiff, Nat.reduceBEq, reduceIte]); (try simp); (try omega)) (WC.exit ?_)
   have : i = L.length := by omega
   subst this
   (try simp only [wk, wl, wx, reduceLT, reduceEqDiff, Nat.reduceBEq, reduceIte])
   ((repeat refine WC.seq ?_); refine WC.run ?_)
   (try simp only [wk, wl, wx, reduceLT, reduceEqDiff, Nat.reduceBEq, reduceIte])
   refine WC.ret ?_
   (try simp only [wk, wl, wx, reduceLT, reduceEqDiff, Nat.reduceBEq, reduceIte])
   exact ⟨by rw [idxI, fstI_none fun j hj => hno j hj hj], ff⟩
 all_goals (try simp only [wk, wl, wx, reduceLT, reduceEqDiff, Nat.reduceBEq, reduceIte])
 all_goals simp
set_option maxRecDepth 100000 in
set_option maxHeartbeats 4000000 in
theorem containsI_ok {h : H} {s : V} {L : List (Ic × ImgD)} {P : Ic × ImgD → Bool} {cap : List V} (a : Rcs (E g) h 7 (fun p => p.1.cells p.2) s L) (hs : In (· < h.next) s) (hM : L.length < 2 ^ 62)
  (hcl : ∀ h' x, Kept h h' → x ∈ L → WF (E g) 106 ([.agg ((fun p : Ic × ImgD => p.1.cells p.2) x)] ++ cap) h' fun v h'' => v = .bool (P x) ∧ Kept h' h'') :
  WF (E g) 105 [s, .func 106 [] cap] h fun v h' => v = .bool (L.any P) ∧ Kept h h' := by
 refine WF.enter fn105 rfl ?_
 ((repeat refine WC.seq ?_); refine WC.run ?_)
 (try simp only [wk, wl, wx, reduceLT, reduceEqDiff, Nat.reduceBEq, reduceIte])
 ((repeat refine WC.seq ?_); refine WC.run ?_)
 (try simp only [wk, wl, wx, reduceLT, reduceEqDiff, Nat.reduceBEq, reduceIte])
 refine (indexI_ok a hs hM hcl).mono fun v h1 ⟨e, f1⟩ => ?_
 subst e
 (try simp only [wk, wl, wx, reduceLT, reduceEqDiff, Nat.reduceBEq, reduceIte])
 (repeat refine WC.seq ?_)
 refine WC.ret ?_
 (try simp only [wk, wl, wx, reduceLT, reduceEqDiff, Nat.reduceBEq, reduceIte])
 exact ⟨by rw [idxI_nonneg], f1⟩
set_option maxRecDepth 100000 in
set_option maxHeartbeats 4000000 in
theorem load1_ok {h : H} {s : V} {L : List (Ic × ImgD)} {k vb kb : Nat} {c : Ic} {x : ImgD} (hk : k < L.length) (im : Ims g h (· < h.next) s L) (bv : Has h vb [s]) (bk : Has h kb [i64 (k : Int)]) (hvb : vb < h.next) (hkb : kb < h.next) (mi : Im g h (· < h.next) c x) (tx : Tame x) (ty : Tame L[k].2) :
  WF (E g) 106 [.agg (c.cells x), .ptr vb 0, .ptr kb 0] h fun v h' => v = .bool (ovl x L[k].2) ∧ Kept h h' := by
 refine WF.enter fn106 rfl ?_
 ((repeat refine WC.seq ?_); refine WC.run ?_)
 (try simp only [wk, wl, wx, reduceLT, reduceEqDiff, Nat.reduceBEq, reduceIte])
 refine wop_box (v := .agg (c.cells x)) (by (try simp only [wk, wl, wx, reduceLT, reduceEqDiff, Nat.reduceBEq, reduceIte])) ?_
 intro h1 b1 n1 f1
 have im1 := (im.fix f1 fun _ h => h)
 have bv1 := bv.fix f1 hvb
 have bk1 := bk.fix f1 hkb
 have mi1 := mi.fix f1 fun _ h => h
 have l1 : loadP (E g) h1 32 (.ptr h.next 0) = some (.agg (c.cells x)) := b1.agg ty32 rfl (Nat.le_refl 7)
 obtain ⟨p, p1, p2⟩ := im1.sl.at (fun _ => rfl) ty108 rfl ty32 rfl (by decide) rfl hk
 have p2 := p2 h1 fun _ _ _ _ _ => rfl
 (try simp only [wk, wl, wx, reduceLT, reduceEqDiff, Nat.reduceBEq, reduceIte])
 ((repeat refine WC.seq ?_); refine WC.draw (plans := pl106_1) (by kernel_rfl) ?_; simp only [pl106_1, List.mem_cons, List.not_mem_nil, or_false, forall_eq_or_imp, forall_eq])
 (try simp (maxSteps := 2000000) only [wk, wl, wx, reduceLT, reduceEqDiff, Nat.reduceBEq, reduceIte, wd, Chk, and_true, true_and, l1, bv1.at ty108 rfl, bk1.at ty3 rfl, i64, p1, p2])
 refine (overlap_ok (mi1.up fun b hb => by omega) ((im1.im _ (List.getElem_mem hk)).up fun b hb => by omega) tx ty).mono fun v h2 ⟨e2, f2⟩ => ?_
 subst e2
 (try simp (maxSteps := 2000000) only [wk, wl, wx, reduceLT, reduceEqDiff, Nat.reduceBEq, reduceIte, wd, Chk, and_true, true_and])
 refine WC.ret ?_
 (try simp only [wk, wl, wx, reduceLT, reduceEqDiff, Nat.reduceBEq, reduceIte])
 exact ⟨by trivial, f1.trans (f2.sub fun b hb => by omega)⟩
end Go.Proofs.OP
