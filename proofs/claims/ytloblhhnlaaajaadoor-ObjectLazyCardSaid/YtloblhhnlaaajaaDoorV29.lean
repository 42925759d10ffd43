/- Walks: IndexFunc, Lookup of both sides. Printed by genS4.py. -/
import Derived.Test.YtloblhhnlaaajaaDoorV15
import Derived.Test.YtloblhhnlaaajaaDoorV28
set_option linter.unusedVariables false
set_option linter.unusedSimpArgs false
set_option linter.defProp false
set_option linter.unusedSimpArgs false
namespace Go.Proofs.OP
open Go Go.Ev
open Go.Proofs
open Nat (reduceLT reduceEqDiff)
variable {g : T (List V)}

def fstI {α : Type} (P : α → Bool) : List α → Option Nat
 | [] => none
 | x :: r => if P x = true then some 0 else (fstI P r).map (· + 1)
theorem fstI_at {α : Type} {P : α → Bool} : ∀ {L : List α} {i : Nat} (hi : i < L.length) (_ : ∀ j (hj : j < L.length), j < i → P L[j] = false) (_ : P L[i] = true), fstI P L = some i
 | [], i, hi, _, _ => absurd hi (Nat.not_lt_zero _)
 | x :: r, 0, hi, _, hx => by simp only [List.getElem_cons_zero] at hx; rw [fstI, if_pos hx]
 | x :: r, i + 1, hi, h, hx => by
  have h0 := h 0 (by simp) (by omega)
  simp only [List.getElem_cons_zero] at h0
  have := fstI_at (L := r) (i := i) (by simpa using hi) (fun j hj hji => by
   have := h (j + 1) (by simpa using hj) (by omega)
   simpa using this) (by simpa using hx)
  rw [fstI, if_neg (by rw [h0]; simp), this]; rfl
theorem fstI_none {α : Type} {P : α → Bool} : ∀ {L : List α} (_ : ∀ j (hj : j < L.length), P L[j] = false), fstI P L = none
 | [], _ => rfl
 | x :: r, h => by
  have h0 := h 0 (by simp)
  simp only [List.getElem_cons_zero] at h0
  have := fstI_none (L := r) (fun j hj => by
   have := h (j + 1) (by simpa using hj)
   simpa using this)
  rw [fstI, if_neg (by rw [h0]; simp), this]; rfl
theorem fstI_some {α : Type} {P : α → Bool} : ∀ {L : List α} {i : Nat}, fstI P L = some i → ∃ hi : i < L.length, P L[i] = true
 | [], _, h => by cases h
 | x :: r, i, h => by
  rw [fstI] at h
  split at h
  ·rename_i hx; injection h with h; subst h; exact ⟨by simp, hx⟩
  ·obtain ⟨j, hj, rfl⟩ := Option.map_eq_some_iff.1 h
   obtain ⟨q1, q2⟩ := fstI_some hj
   exact ⟨by simpa using q1, by simpa using q2⟩
def idxI {α : Type} (P : α → Bool) (L : List α) : Int := match fstI P L with
 | some k => (k : Int)
 | none => -1

set_option maxRecDepth 100000 in
set_option maxHeartbeats 4000000 in
theorem indexE_ok {h : H} {s : V} {L : List ExpD} {P : ExpD → Bool} {cap : List V} (a : Xs g h s L) (hs : In (· < h.next) s) (hM : L.length < 2 ^ 62)
  (hcl : ∀ h' x, Kept h h' → x ∈ L → WF (E g) 39 ([.agg (expV x)] ++ cap) h' fun v h'' => v = .bool (P x) ∧ Kept h' h'') :
  WF (E g) 38 [s, .func 39 [] cap] h fun v h' => v = .int .i64 (idxI P L) ∧ Kept h h' := by
 refine WF.enter fn38 rfl ?_
 ((repeat refine WC.seq ?_); refine WC.run ?_)
 (try simp only [wk, wl, wx, reduceLT, reduceEqDiff, Nat.reduceBEq, reduceIte])
 ((repeat refine WC.seq ?_); refine WC.run ?_)
 (try simp only [wk, wl, wx, reduceLT, reduceEqDiff, Nat.reduceBEq, reduceIte, Sl.lenB a ty28 rfl])
 (repeat refine WC.seq ?_)
 refine WC.block ?_
 refine WC.while (fun m fr hh => ∃ ts i, fr = ⟨ts, 19, [], 38, none⟩ ∧ Kept h hh ∧ m = L.length - i ∧ i ≤ L.length ∧ ts.get 0 = some s ∧ ts.get 1 = some (.func 39 [] cap) ∧ ts.get 7 = some (.int .i64 L.length) ∧ ts.get 8 = some (.int .i64 i) ∧ ∀ j (hj : j < L.length), j < i → P L[j] = false) ?_ ⟨_, 0, rfl, Fix.refl _ _, rfl, by omega, ?_, ?_, ?_, ?_, fun j hj hji => absurd hji (Nat.not_lt_zero _)⟩
 ·rintro m fr hh ⟨ts, i, rfl, ff, rfl, hi, t0, t1, t7, t8, hno⟩
  ((repeat refine WC.seq ?_); refine WC.run ?_)
  (try simp only [wk, wl, wx, reduceLT, reduceEqDiff, Nat.reduceBEq, reduceIte, t7, t8])
  (repeat refine WC.seq ?_)
  by_cases hlt : i < L.length
  ·refine WC.cond (b := true) (by (try simp only [wk, wl, wx, reduceLT, reduceEqDiff, Nat.reduceBEq, reduceIte]); (try simp); (try omega)) (WC.skip ?_)
   (try simp only [wk, wl, wx, reduceLT, reduceEqDiff, Nat.reduceBEq, reduceIte])
   obtain ⟨p, p1, p2⟩ := a.at expV_length ty28 rfl ty41 rfl (by decide) rfl hlt
   have p2 := p2 hh fun b o m c e => ff.same b (hs _ _ _ _ e)
   have hmem := List.getElem_mem hlt
   (repeat refine WC.seq ?_)
   refine WC.block ?_
   ((repeat refine WC.seq ?_); refine WC.run ?_)
   (try simp only [wk, wl, wx, reduceLT, reduceEqDiff, Nat.reduceBEq, reduceIte, t8])
   ((repeat refine WC.seq ?_); refine WC.run ?_)
   (try simp only [wk, wl, wx, reduceLT, reduceEqDiff, Nat.reduceBEq, reduceIte, t0, t1, p1, p2])
   refine (hcl hh L[i] ff hmem).mono fun v h2 ⟨e2, f2⟩ => ?_
   subst e2
   (try simp only [wk, wl, wx, reduceLT, reduceEqDiff, Nat.reduceBEq, reduceIte])
   (repeat refine WC.seq ?_)
   cases hb : P L[i] with
   | true =>
    refine WC.cond (b := true) (by (try simp only [wk, wl, wx, reduceLT, reduceEqDiff, Nat.reduceBEq, reduceIte, hb]); (try simp); (try omega)) ?_
    ((repeat refine WC.seq ?_); refine WC.run ?_)
    (try simp only [wk, wl, wx, reduceLT, reduceEqDiff, Nat.reduceBEq, reduceIte])
    refine WC.ret ?_
    (try simp only [wk, wl, wx, reduceLT, reduceEqDiff, Nat.reduceBEq, reduceIte])
    exact ⟨by rw [idxI, fstI_at hlt hno hb], ff.trans (f2.sub fun x hx => Nat.lt_of_lt_of_le hx ff.next)⟩
   | false =>
    refine WC.cond (b := false) (by (try simp only [wk, wl, wx, reduceLT, reduceEqDiff, Nat.reduceBEq, reduceIte, hb]); (try simp); (try omega)) (WC.skip ?_)
    (try simp only [wk, wl, wx, reduceLT, reduceEqDiff, Nat.reduceBEq, reduceIte])
    ((repeat refine WC.seq ?_); refine WC.run ?_)
    (try simp only [wk, wl, wx, reduceLT, reduceEqDiff, Nat.reduceBEq, reduceIte, t8, bin_add])
    refine ⟨_, ?_, _, i + 1, rfl, ff.trans (f2.sub fun x hx => Nat.lt_of_lt_of_le hx ff.next), rfl, by omega, ?_⟩
    ·omega
    (try simp only [wk, wl, wx, reduceLT, reduceEqDiff, Nat.reduceBEq, reduceIte, t0, t1, t7])
    refine ⟨trivial, trivial, trivial, ?_, fun j hj hji => ?_⟩
    ·rw [wrap64 (by omega) (by omega)]; rfl
    ·rcases Nat.lt_succ_iff_lt_or_eq.1 hji with q | rfl
     ·exact hno j hj q
     ·exact hb
  ·refine WC.cond (b := false) (by (try simp only [wk, wl, wx, reduceLT, reduceEqDiff, Nat.reduceBEq, reduceIte]); (try simp); (try omega)) (WC.exit ?_)
   have : i = L.length := by omega
   subst this
   (try simp only [wk, wl, wx, reduceLT, reduceEqDiff, Nat.reduceBEq, reduceIte])
   ((repeat refine WC.seq ?_); refine WC.run ?_)
   (try simp only [wk, wl, wx, reduceLT, reduceEqDiff, Nat.reduceBEq, reduceIte])
   refine WC.ret ?_
   (try simp only [wk, wl, wx, reduceLT, reduceEqDiff, Nat.reduceBEq, reduceIte])
   exact ⟨by rw [idxI, fstI_none fun j hj => hno j hj hj], ff⟩
 all_goals (try simp only [wk, wl, wx, reduceLT, reduceEqDiff, Nat.reduceBEq, reduceIte])
 all_goals simp
set_option maxRecDepth 100000 in
set_option maxHeartbeats 4000000 in
theorem nameE_ok {h : H} {x : ExpD} {nm : List UInt8} {nb : Nat} (b : Has h nb [.str nm]) (hb : nb < h.next) : WF (E g) 39 [.agg (expV x), .ptr nb 0] h fun v h' => v = .bool (x.name == nm) ∧ Kept h h' := by
 refine WF.enter fn39 rfl ?_
 ((repeat refine WC.seq ?_); refine WC.run ?_)
 (try simp only [wk, wl, wx, reduceLT, reduceEqDiff, Nat.reduceBEq, reduceIte])
 refine wop_box (v := .agg (expV x)) (by (try simp only [wk, wl, wx, reduceLT, reduceEqDiff, Nat.reduceBEq, reduceIte])) ?_
 intro h1 b1 n1 f1
 (try simp only [wk, wl, wx, reduceLT, reduceEqDiff, Nat.reduceBEq, reduceIte])
 have c := b.fix f1 hb
 have c0 : loadP (E g) h1 9 (.ptr nb 0) = some (.str nm) := c.at ty9 rfl 0
 have d0 : loadP (E g) h1 9 (.ptr h.next 0) = some (.str x.name) := b1.at ty9 rfl 0
 ((repeat refine WC.seq ?_); refine WC.run ?_)
 (try simp only [wk, wl, wx, reduceLT, reduceEqDiff, Nat.reduceBEq, reduceIte, fa41_0, Nat.zero_add, c0, d0, bin_seql])
 (repeat refine WC.seq ?_)
 refine WC.ret ?_
 (try simp only [wk, wl, wx, reduceLT, reduceEqDiff, Nat.reduceBEq, reduceIte])
 exact ⟨by trivial, f1⟩
set_option maxRecDepth 100000 in
set_option maxHeartbeats 4000000 in
theorem indexB_ok {h : H} {s : V} {L : List SlotD} {P : SlotD → Bool} {cap : List V} (a : Bi g h s L) (hs : In (· < h.next) s) (hM : L.length < 2 ^ 62)
  (hcl : ∀ h' x, Kept h h' → x ∈ L → WF (E g) 42 ([.agg (slotV x)] ++ cap) h' fun v h'' => v = .bool (P x) ∧ Kept h' h'') :
  WF (E g) 41 [s, .func 42 [] cap] h fun v h' => v = .int .i64 (idxI P L) ∧ Kept h h' := by
 refine WF.enter fn41 rfl ?_
 ((repeat refine WC.seq ?_); refine WC.run ?_)
 (try simp only [wk, wl, wx, reduceLT, reduceEqDiff, Nat.reduceBEq, reduceIte])
 ((repeat refine WC.seq ?_); refine WC.run ?_)
 (try simp only [wk, wl, wx, reduceLT, reduceEqDiff, Nat.reduceBEq, reduceIte, Sl.lenB a ty29 rfl])
 (repeat refine WC.seq ?_)
 refine WC.block ?_
 refine WC.while (fun m fr hh => ∃ ts i, fr = ⟨ts, 19, [], 41, none⟩ ∧ Kept h hh ∧ m = L.length - i ∧ i ≤ L.length ∧ ts.get 0 = some s ∧ ts.get 1 = some (.func 42 [] cap) ∧ ts.get 7 = some (.int .i64 L.length) ∧ ts.get 8 = some (.int .i64 i) ∧ ∀ j (hj : j < L.length), j < i → P L[j] = false) ?_ ⟨_, 0, rfl, Fix.refl _ _, rfl, by omega, ?_, ?_, ?_, ?_, fun j hj hji => absurd hji (Nat.not_lt_zero _)⟩
 ·rintro m fr hh ⟨ts, i, rfl, ff, rfl, hi, t0, t1, t7, t8, hno⟩
  ((repeat refine WC.seq ?_); refine WC.run ?_)
  (try simp only [wk, wl, wx, reduceLT, reduceEqDiff, Nat.reduceBEq, reduceIte, t7, t8])
  (repeat refine WC.seq ?_)
  by_cases hlt : i < L.length
  ·refine WC.cond (b := true) (by (try simp only [wk, wl, wx, reduceLT, reduceEqDiff, Nat.reduceBEq, reduceIte]); (try simp); (try omega)) (WC.skip ?_)
   (try simp only [wk, wl, wx, reduceLT, reduceEqDiff, Nat.reduceBEq, reduceIte])
   obtain ⟨p, p1, p2⟩ := a.at slotV_length ty29 rfl ty43 rfl (by decide) rfl hlt
   have p2 := p2 hh fun b o m c e => ff.same b (hs _ _ _ _ e)
   have hmem := List.getElem_mem hlt
   (repeat refine WC.seq ?_)
   refine WC.block ?_
   ((repeat refine WC.seq ?_); refine WC.run ?_)
   (try simp only [wk, wl, wx, reduceLT, reduceEqDiff, Nat.reduceBEq, reduceIte, t8])
   ((repeat refine WC.seq ?_); refine WC.run ?_)
   (try simp only [wk, wl, wx, reduceLT, reduceEqDiff, Nat.reduceBEq, reduceIte, t0, t1, p1, p2])
   refine (hcl hh L[i] ff hmem).mono fun v h2 ⟨e2, f2⟩ => ?_
   subst e2
   (try simp only [wk, wl, wx, reduceLT, reduceEqDiff, Nat.reduceBEq, reduceIte])
   (repeat refine WC.seq ?_)
   cases hb : P L[i] with
   | true =>
    refine WC.cond (b := true) (by (try simp only [wk, wl, wx, reduceLT, reduceEqDiff, Nat.reduceBEq, reduceIte, hb]); (try simp); (try omega)) ?_
    ((repeat refine WC.seq ?_); refine WC.run ?_)
    (try simp only [wk, wl, wx, reduceLT, reduceEqDiff, Nat.reduceBEq, reduceIte])
    refine WC.ret ?_
    (try simp only [wk, wl, wx, reduceLT, reduceEqDiff, Nat.reduceBEq, reduceIte])
    exact ⟨by rw [idxI, fstI_at hlt hno hb], ff.trans (f2.sub fun x hx => Nat.lt_of_lt_of_le hx ff.next)⟩
   | false =>
    refine WC.cond (b := false) (by (try simp only [wk, wl, wx, reduceLT, reduceEqDiff, Nat.reduceBEq, reduceIte, hb]); (try simp); (try omega)) (WC.skip ?_)
    (try simp only [wk, wl, wx, reduceLT, reduceEqDiff, Nat.reduceBEq, reduceIte])
    ((repeat refine WC.seq ?_); refine WC.run ?_)
    (try simp only [wk, wl, wx, reduceLT, reduceEqDiff, Nat.reduceBEq, reduceIte, t8, bin_add])
    refine ⟨_, ?_, _, i + 1, rfl, ff.trans (f2.sub fun x hx => Nat.lt_of_lt_of_le hx ff.next), rfl, by omega, ?_⟩
    ·omega
    (try simp only [wk, wl, wx, reduceLT, reduceEqDiff, Nat.reduceBEq, reduceIte, t0, t1, t7])
    refine ⟨trivial, trivial, trivial, ?_, fun j hj hji => ?_⟩
    ·rw [wrap64 (by omega) (by omega)]; rfl
    ·rcases Nat.lt_succ_iff_lt_or_eq.1 hji with q | rfl
     ·exact hno j hj q
     ·exact hb
  ·refine WC.cond (b := false) (by (try simp only [wk, wl, wx, reduceLT, reduceEqDiff, Nat.reduceBEq, reduceIte]); (try simp); (try omega)) (WC.exit ?_)
   have : i = L.length := by omega
   subst this
   (try simp only [wk, wl, wx, reduceLT, reduceEqDiff, Nat.reduceBEq, reduceIte])
   ((repeat refine WC.seq ?_); refine WC.run ?_)
   (try simp only [wk, wl, wx, reduceLT, reduceEqDiff, Nat.reduceBEq, reduceIte])
   refine WC.ret ?_
   (try simp only [wk, wl, wx, reduceLT, reduceEqDiff, Nat.reduceBEq, reduceIte])
   exact ⟨by rw [idxI, fstI_none fun j hj => hno j hj hj], ff⟩
 all_goals (try simp only [wk, wl, wx, reduceLT, reduceEqDiff, Nat.reduceBEq, reduceIte])
 all_goals simp
set_option maxRecDepth 100000 in
set_option maxHeartbeats 4000000 in
theorem nameS_ok {h : H} {x : SlotD} {nm : List UInt8} {nb : Nat} (b : Has h nb [.str nm]) (hb : nb < h.next) : WF (E g) 42 [.agg (slotV x), .ptr nb 0] h fun v h' => v = .bool (x.name == nm) ∧ Kept h h' := by
 refine WF.enter fn42 rfl ?_
 ((repeat refine WC.seq ?_); refine WC.run ?_)
 (try simp only [wk, wl, wx, reduceLT, reduceEqDiff, Nat.reduceBEq, reduceIte])
 refine wop_box (v := .agg (slotV x)) (by (try simp only [wk, wl, wx, reduceLT, reduceEqDiff, Nat.reduceBEq, reduceIte])) ?_
 intro h1 b1 n1 f1
 (try simp only [wk, wl, wx, reduceLT, reduceEqDiff, Nat.reduceBEq, reduceIte])
 have c := b.fix f1 hb
 have c0 : loadP (E g) h1 9 (.ptr nb 0) = some (.str nm) := c.at ty9 rfl 0
 have d0 : loadP (E g) h1 9 (.ptr h.next 0) = some (.str x.name) := b1.at ty9 rfl 0
 ((repeat refine WC.seq ?_); refine WC.run ?_)
 (try simp only [wk, wl, wx, reduceLT, reduceEqDiff, Nat.reduceBEq, reduceIte, fa43_0, Nat.zero_add, c0, d0, bin_seql])
 (repeat refine WC.seq ?_)
 refine WC.ret ?_
 (try simp only [wk, wl, wx, reduceLT, reduceEqDiff, Nat.reduceBEq, reduceIte])
 exact ⟨by trivial, f1⟩

def expA (nm : List UInt8) (x : ImgD) : Option Int := ((fstI (fun e => e.name == nm) x.exps).bind fun k => x.exps[k]?).map (·.addr)
def lookP (nm : List UInt8) : Nat → List ImgD → Int × Int × Int
 | _, [] => (0, 0, 22)
 | n, x :: r => match expA nm x with
  | some a => (a, (n : Int), 0)
  | none => lookP nm (n + 1) r
theorem lookP_step {nm : List UInt8} {xs : List ImgD} {i : Nat} (hi : i < xs.length) : lookP nm i (xs.drop i) = match expA nm xs[i] with
  | some a => (a, (i : Int), 0)
  | none => lookP nm (i + 1) (xs.drop (i + 1)) := by
 rw [List.drop_eq_getElem_cons hi, lookP]
def lookV (p : Int × Int × Int) : V := .tuple [i64 p.1, i64 p.2.1, i64 p.2.2]

set_option maxRecDepth 100000 in
set_option maxHeartbeats 4000000 in
theorem lookup_ok {h : H} {lo hi pb sb : Nat} {sc : Cp} {tag : Nat → Nat} {cs : List Ic} {xs : List ImgD} {nm : List UInt8} (a : PM g h lo hi pb sb sc tag cs xs) (hx : xs.length < 2 ^ 40) (he : ∀ x ∈ xs, x.exps.length < 2 ^ 40) :
  WF (E g) 12 [.ptr pb 0, .str nm] h fun v h' => v = lookV (lookP nm 0 xs) ∧ Kept h h' := by
 refine WF.enter fn12 rfl ?_
 ((repeat refine WC.seq ?_); refine WC.run ?_)
 (try simp only [wk, wl, wx, reduceLT, reduceEqDiff, Nat.reduceBEq, reduceIte])
 refine wop_box (v := .str nm) (by (try simp only [wk, wl, wx, reduceLT, reduceEqDiff, Nat.reduceBEq, reduceIte])) ?_
 intro h1 b1 n1 f1
 (try simp only [wk, wl, wx, reduceLT, reduceEqDiff, Nat.reduceBEq, reduceIte])
 have a1 := a.kept f1
 have l0 : loadP (E g) h1 108 (.ptr pb 0) = some (.slice sb 0 xs.length sc) := a1.has.at ty108 rfl 0
 ((repeat refine WC.seq ?_); refine WC.run ?_)
 (try simp only [wk, wl, wx, reduceLT, reduceEqDiff, Nat.reduceBEq, reduceIte, bin_pnil])
 (repeat refine WC.seq ?_)
 refine WC.cond (b := false) (by (try simp only [wk, wl, wx, reduceLT, reduceEqDiff, Nat.reduceBEq, reduceIte]); (try simp); (try omega)) (WC.skip ?_)
 (try simp only [wk, wl, wx, reduceLT, reduceEqDiff, Nat.reduceBEq, reduceIte])
 ((repeat refine WC.seq ?_); refine WC.run ?_)
 (try simp only [wk, wl, wx, reduceLT, reduceEqDiff, Nat.reduceBEq, reduceIte, fa110_0, Nat.zero_add, l0, Sl.lenB a1.sl ty108 rfl])
 (repeat refine WC.seq ?_)
 refine WC.block ?_
 refine WC.while (fun m fr hh => ∃ ts i, fr = ⟨ts, 36, [], 12, none⟩ ∧ Kept h1 hh ∧ m = xs.length - i ∧ i ≤ xs.length ∧ ts.get 3 = some (.ptr h.next 0) ∧ ts.get 15 = some (.slice sb 0 xs.length sc) ∧ ts.get 16 = some (.int .i64 xs.length) ∧ ts.get 17 = some (.int .i64 i) ∧ lookP nm 0 xs = lookP nm i (xs.drop i)) ?_ ⟨_, 0, rfl, Fix.refl _ _, rfl, by omega, ?_, ?_, ?_, ?_, by simp⟩
 ·rintro m fr hh ⟨ts, i, rfl, ff, rfl, hi, t3, t15, t16, t17, hlk⟩
  have xh := ff.next
  have ah := a1.kept ff
  have bh := b1.fix ff (by omega)
  ((repeat refine WC.seq ?_); refine WC.run ?_)
  (try simp only [wk, wl, wx, reduceLT, reduceEqDiff, Nat.reduceBEq, reduceIte, t16, t17])
  (repeat refine WC.seq ?_)
  by_cases hlt : i < xs.length
  ·refine WC.cond (b := true) (by (try simp only [wk, wl, wx, reduceLT, reduceEqDiff, Nat.reduceBEq, reduceIte]); (try simp); (try omega)) (WC.skip ?_)
   (try simp only [wk, wl, wx, reduceLT, reduceEqDiff, Nat.reduceBEq, reduceIte])
   obtain ⟨c, hc⟩ := ah.ic hlt
   have hxi : xs[i]? = some xs[i] := List.getElem?_eq_getElem hlt
   have mi := ah.im i c xs[i] hc hxi
   have ac := ah.cell hc hxi
   have lx : loadP (E g) hh 32 (.ptr sb (i * 7)) = some (.agg (c.cells xs[i])) := ac.agg ty32 rfl rfl
   have hhn := ah.his
   (repeat refine WC.seq ?_)
   refine WC.block ?_
   ((repeat refine WC.seq ?_); refine WC.run ?_)
   (try simp only [wk, wl, wx, reduceLT, reduceEqDiff, Nat.reduceBEq, reduceIte, t15, t17, idx_slice ty108 rfl ty32 hlt, Nat.zero_add, lx])
   refine wop_alloc ty32 ?_
   intro h5 b5 n5 f5
   (try simp only [wk, wl, wx, reduceLT, reduceEqDiff, Nat.reduceBEq, reduceIte])
   refine sat_store b5 ty32 rfl (Nat.le_refl 7) (by simp only [V.cells, Ic.cells, List.all_cons, List.all_nil, (Sl.one mi.im.bytes).2, (Sl.one mi.im.exps).2, (Sl.one mi.im.slots).2, (Sl.one mi.im.needs).2, Bool.and_true]; rfl) ?_
   intro h6 b6 n6 f6
   have b6 : Has h6 hh.next [i64 xs[i].base, c.bytes, i64 xs[i].code, i64 xs[i].entry, c.exps, c.slots, c.needs] := b6
   have F6 : Kept hh h6 := ⟨by omega, fun b hb => by rw [f6.same b (by omega), f5.same b hb]⟩
   have mi6 := mi.fix (F6.sub fun b hb => by omega)
   (try simp only [wk, wl, wx, reduceLT, reduceEqDiff, Nat.reduceBEq, reduceIte])
   ((repeat refine WC.seq ?_); refine WC.run ?_)
   (try simp only [wk, wl, wx, reduceLT, reduceEqDiff, Nat.reduceBEq, reduceIte, t3, fa32_4, Nat.zero_add, b6.at ty28 rfl, w_makeFunc])
   refine (indexE_ok (P := fun e => e.name == nm) mi6.im.exps (mi6.im.inX.sub fun b hb => by omega) (by have := he _ (List.getElem_mem hlt); omega) (fun h' x k _ => nameE_ok ((bh.fix F6 (by omega)).fix k (by omega)) (by have := k.next; omega))).mono fun v h7 ⟨e7, f7⟩ => ?_
   subst e7
   have x7 := f7.next
   have b7 := b6.fix f7 (by omega)
   have mi7 := mi6.fix (f7.sub fun b hb => by omega)
   (try simp only [wk, wl, wx, reduceLT, reduceEqDiff, Nat.reduceBEq, reduceIte])
   ((repeat refine WC.seq ?_); refine WC.run ?_)
   (try simp only [wk, wl, wx, reduceLT, reduceEqDiff, Nat.reduceBEq, reduceIte])
   (repeat refine WC.seq ?_)
   have hK : Kept h h7 := ⟨by omega, fun b hb => by rw [f7.same b (by omega), F6.same b (by omega), ff.same b (by omega), f1.same b hb]⟩
   cases hf : fstI (fun e => e.name == nm) xs[i].exps with
   | some k =>
    obtain ⟨hk, _⟩ := fstI_some hf
    have hik : idxI (fun e => e.name == nm) xs[i].exps = (k : Int) := by rw [idxI, hf]
    rw [hik]
    refine WC.cond (b := true) (by (try simp only [wk, wl, wx, reduceLT, reduceEqDiff, Nat.reduceBEq, reduceIte]); (try simp); (try omega)) ?_
    obtain ⟨mk, o, hmk, q1, q2⟩ := Rcs.spot mi7.im.exps expV_length ty28 rfl ty41 rfl (by decide) hk
    have q2 := q2 h7 (fun _ _ _ _ _ => rfl) 1 (by decide) 2 _ ty2 rfl
    have q3 : fieldAddrV (E g) 41 (mk o) 1 = some (mk (o + 1)) := by
     rcases hmk with ⟨b, hb⟩ | ⟨b, hb⟩
     ·rw [hb, hb]; exact fa41_1
     ·rw [hb, hb]; exact fg41_1
    ((repeat refine WC.seq ?_); refine WC.run ?_)
    (try simp only [wk, wl, wx, reduceLT, reduceEqDiff, Nat.reduceBEq, reduceIte, fa32_4, Nat.zero_add, b7.at ty28 rfl, hik, q1, q3, q2, expV, i64])
    refine WC.ret ?_
    (try simp only [wk, wl, wx, reduceLT, reduceEqDiff, Nat.reduceBEq, reduceIte])
    refine ⟨?_, hK⟩
    have hA : expA nm xs[i] = some xs[i].exps[k].addr := by
     rw [expA, hf, Option.bind_some, List.getElem?_eq_getElem hk]; rfl
    rw [hlk, lookP_step hlt, hA]; rfl
   | none =>
    have hik : idxI (fun e => e.name == nm) xs[i].exps = -1 := by rw [idxI, hf]
    rw [hik]
    refine WC.cond (b := false) (by (try simp only [wk, wl, wx, reduceLT, reduceEqDiff, Nat.reduceBEq, reduceIte]); (try simp); (try omega)) (WC.skip ?_)
    (try simp only [wk, wl, wx, reduceLT, reduceEqDiff, Nat.reduceBEq, reduceIte])
    ((repeat refine WC.seq ?_); refine WC.run ?_)
    (try simp only [wk, wl, wx, reduceLT, reduceEqDiff, Nat.reduceBEq, reduceIte, t17, bin_add])
    refine ⟨_, ?_, _, i + 1, rfl, ⟨by omega, fun b hb => by rw [f7.same b (by omega), F6.same b (by omega), ff.same b hb]⟩, rfl, by omega, ?_⟩
    ·omega
    (try simp only [wk, wl, wx, reduceLT, reduceEqDiff, Nat.reduceBEq, reduceIte, t3, t15, t16])
    refine ⟨trivial, trivial, trivial, ?_, ?_⟩
    ·rw [wrap64 (by omega) (by omega)]; rfl
    ·rw [hlk, lookP_step hlt, expA, hf]; rfl
  ·refine WC.cond (b := false) (by (try simp only [wk, wl, wx, reduceLT, reduceEqDiff, Nat.reduceBEq, reduceIte]); (try simp); (try omega)) (WC.exit ?_)
   have : i = xs.length := by omega
   subst this
   (try simp only [wk, wl, wx, reduceLT, reduceEqDiff, Nat.reduceBEq, reduceIte])
   ((repeat refine WC.seq ?_); refine WC.run ?_)
   (try simp only [wk, wl, wx, reduceLT, reduceEqDiff, Nat.reduceBEq, reduceIte])
   refine WC.ret ?_
   (try simp only [wk, wl, wx, reduceLT, reduceEqDiff, Nat.reduceBEq, reduceIte])
   refine ⟨?_, f1.trans (ff.sub fun b hb => by omega)⟩
   rw [hlk, List.drop_length]; rfl
 all_goals (try simp only [wk, wl, wx, reduceLT, reduceEqDiff, Nat.reduceBEq, reduceIte])
 all_goals simp

end Go.Proofs.OP
