/- What walks of this seat know of its types and functions. -/
import Derived.Test.YtloblhhnlaaajaaDoorV12
import Derived.Test.YtloblhhnlaaajaaDoorProg
import Derived.KernelRfl
import Derived.Test.YtloblhhnlaaajaaDoorV15
import Derived.Test.YtloblhhnlaaajaaDoorV14
import Derived.Test.YtloblhhnlaaajaaDoorV13
set_option linter.unusedVariables false
set_option linter.unusedSimpArgs false
set_option linter.defProp false
namespace Go.Proofs.OP
open Go Go.Ev
open Go.Proofs

def es : List Nat := [35, 41, 43, 95, 97, 199]
def fl : List Nat := List.range 9 ++ List.range' 10 77 ++ List.range' 88 84
def sk : List (Nat × Nat × Nat) := [(87, 113, 9), (87, 115, 9)]
@[irreducible] noncomputable def E (g : T (List V)) : Env := envOf4 Tryd.prog (List.range 275) fl [] [9] es sk g
variable {g : T (List V)}
theorem E_tys : (E g).tys = tysOf Tryd.prog (List.range 275) := by unfold E envOf4; dsimp only
theorem E_fns : (E g).fns = fnsOf Tryd.prog fl := by unfold E envOf4; dsimp only
theorem E_9 : (E g).fns.get 9 = none := by rw [E_fns]; exact fn_out (by kernel_rfl)
theorem awake_ok {h : H} {Q : V → H → Prop} (k : Q (.bool true) { t := .lf, next := h.next }) : WF (E g) 9 [] h Q :=
 WF.done E_9 (by unfold E envOf4; rfl) (by unfold E envOf4; exact T.get_lf 9) (by unfold E envOf4; rfl) k
theorem ty2 : (E g).tys.get 2 = some { desc := .int .i64, size := 1, bytes := 8, zero := [.int .i64 0], zv := .int .i64 0, cmp := true } := by rw [E_tys]; exact ty_at (by kernel_rfl) rfl
theorem ty3 : (E g).tys.get 3 = some { desc := .int .i64, size := 1, bytes := 8, zero := [.int .i64 0], zv := .int .i64 0, cmp := true } := by rw [E_tys]; exact ty_at (by kernel_rfl) rfl
theorem ty4 : (E g).tys.get 4 = some { desc := .bool, size := 1, bytes := 1, zero := [.bool false], zv := .bool false, cmp := true } := by rw [E_tys]; exact ty_at (by kernel_rfl) rfl
theorem ty5 : (E g).tys.get 5 = some { desc := .int .u8, size := 1, bytes := 1, zero := [.int .u8 0], zv := .int .u8 0, cmp := true } := by rw [E_tys]; exact ty_at (by kernel_rfl) rfl
theorem ty9 : (E g).tys.get 9 = some { desc := .string, size := 1, bytes := 16, zero := [.str []], zv := .str [], cmp := true } := by rw [E_tys]; exact ty_at (by kernel_rfl) rfl
theorem ty27 : (E g).tys.get 27 = some { desc := .slice 5, size := 1, bytes := 24, zero := [.nils], zv := .nils, cmp := false } := by rw [E_tys]; exact ty_at (by kernel_rfl) rfl
theorem ty30 : (E g).tys.get 30 = some { desc := .slice 9, size := 1, bytes := 24, zero := [.nils], zv := .nils, cmp := false } := by rw [E_tys]; exact ty_at (by kernel_rfl) rfl
theorem ty33 : (E g).tys.get 33 = some { desc := .int .i64, size := 1, bytes := 8, zero := [.int .i64 0], zv := .int .i64 0, cmp := true } := by rw [E_tys]; exact ty_at (by kernel_rfl) rfl
theorem ty188 : (E g).tys.get 188 = some { desc := .struct #[], size := 0, bytes := 0, zero := [], zv := .agg [], cmp := true } := by rw [E_tys]; exact ty_at (by kernel_rfl) rfl
theorem ty194 : (E g).tys.get 194 = some { desc := .int .u64, size := 1, bytes := 8, zero := [.int .u64 0], zv := .int .u64 0, cmp := true } := by rw [E_tys]; exact ty_at (by kernel_rfl) rfl
theorem ty199 : (E g).tys.get 199 = some { desc := .array 4 5, size := 4, bytes := 4, zero := [.int .u8 0, .int .u8 0, .int .u8 0, .int .u8 0], zv := .agg [.int .u8 0, .int .u8 0, .int .u8 0, .int .u8 0], cmp := true } := by rw [E_tys]; exact ty_at (by kernel_rfl) rfl
theorem fn3 : (E g).fns.get 3 = some { nt := 214, body := Tryd.f3.body.get!, res := [.tmp 4] } := by rw [E_fns]; exact fn_in (FI.of_mk Tryd.func3 (show Tryd.f3.body = some Tryd.f3.body.get! by kernel_rfl) (by kernel_rfl) (show Tryd.f3.ntmps = 214 by kernel_rfl) (show Tryd.f3.results.toList = [.tmp 4] by kernel_rfl)) rfl
theorem fn7 : (E g).fns.get 7 = some { nt := 120, body := Tryd.f7.body.get!, res := [.tmp 4] } := by rw [E_fns]; exact fn_in (FI.of_mk Tryd.func7 (show Tryd.f7.body = some Tryd.f7.body.get! by kernel_rfl) (by kernel_rfl) (show Tryd.f7.ntmps = 120 by kernel_rfl) (show Tryd.f7.results.toList = [.tmp 4] by kernel_rfl)) rfl
theorem fn44 : (E g).fns.get 44 = some { nt := 8, body := Tryd.f44.body.get!, res := [.tmp 2] } := by rw [E_fns]; exact fn_in (FI.of_mk Tryd.func44 (show Tryd.f44.body = some Tryd.f44.body.get! by kernel_rfl) (by kernel_rfl) (show Tryd.f44.ntmps = 8 by kernel_rfl) (show Tryd.f44.results.toList = [.tmp 2] by kernel_rfl)) rfl
theorem fn62 : (E g).fns.get 62 = some { nt := 8, body := Tryd.f62.body.get!, res := [.tmp 2] } := by rw [E_fns]; exact fn_in (FI.of_mk Tryd.func62 (show Tryd.f62.body = some Tryd.f62.body.get! by kernel_rfl) (by kernel_rfl) (show Tryd.f62.ntmps = 8 by kernel_rfl) (show Tryd.f62.results.toList = [.tmp 2] by kernel_rfl)) rfl
theorem fn80 : (E g).fns.get 80 = some { nt := 16, body := Tryd.f80.body.get!, res := [.tmp 4] } := by rw [E_fns]; exact fn_in (FI.of_mk Tryd.func80 (show Tryd.f80.body = some Tryd.f80.body.get! by kernel_rfl) (by kernel_rfl) (show Tryd.f80.ntmps = 16 by kernel_rfl) (show Tryd.f80.results.toList = [.tmp 4] by kernel_rfl)) rfl
theorem fn83 : (E g).fns.get 83 = some { nt := 9, body := Tryd.f83.body.get!, res := [.tmp 4] } := by rw [E_fns]; exact fn_in (FI.of_mk Tryd.func83 (show Tryd.f83.body = some Tryd.f83.body.get! by kernel_rfl) (by kernel_rfl) (show Tryd.f83.ntmps = 9 by kernel_rfl) (show Tryd.f83.results.toList = [.tmp 4] by kernel_rfl)) rfl
theorem fn90 : (E g).fns.get 90 = some { nt := 3, body := Tryd.f90.body.get!, res := [.cell 0 188] } := by rw [E_fns]; exact fn_in (FI.of_mk Tryd.func90 (show Tryd.f90.body = some Tryd.f90.body.get! by kernel_rfl) (by kernel_rfl) (show Tryd.f90.ntmps = 3 by kernel_rfl) (show Tryd.f90.results.toList = [.cell 0 188] by kernel_rfl)) rfl
theorem fn103 : (E g).fns.get 103 = some { nt := 19, body := Tryd.f103.body.get!, res := [.tmp 4] } := by rw [E_fns]; exact fn_in (FI.of_mk Tryd.func103 (show Tryd.f103.body = some Tryd.f103.body.get! by kernel_rfl) (by kernel_rfl) (show Tryd.f103.ntmps = 19 by kernel_rfl) (show Tryd.f103.results.toList = [.tmp 4] by kernel_rfl)) rfl
theorem fn114 : (E g).fns.get 114 = some { nt := 19, body := Tryd.f114.body.get!, res := [] } := by rw [E_fns]; exact fn_in (FI.of_mk Tryd.func114 (show Tryd.f114.body = some Tryd.f114.body.get! by kernel_rfl) (by kernel_rfl) (show Tryd.f114.ntmps = 19 by kernel_rfl) (show Tryd.f114.results.toList = [] by kernel_rfl)) rfl
end Go.Proofs.OP

set_option linter.unusedSimpArgs false
namespace Go.Proofs.OP
open Go Go.Ev
open Go.Proofs
open Nat (reduceLT reduceEqDiff)
variable {g : T (List V)}

def u8 (c : UInt8) : V := .int .u8 c.toNat
abbrev Bs (g : T (List V)) (h : H) (s : V) (xs : List UInt8) : Prop := Sl (E g) h 1 s xs.length (xs.map u8)

theorem Bs.at {h : H} {s : V} {xs : List UInt8} (a : Bs g h s xs) {k : Nat} (hk : k < xs.length) :
  ∃ p, indexAddrV (E g) 27 s (.int .i64 k) = some p ∧ loadP (E g) h 5 p = some (u8 xs[k]) := by
 obtain ⟨p, h1, h2⟩ := Sl.place a ty27 rfl ty5 rfl (by decide) hk
 refine ⟨p, h1, ?_⟩
 rw [h2 h fun _ _ _ _ _ => rfl]
 show (xs.map u8)[k * 1]? = _
 rw [Nat.mul_one, List.getElem?_map, List.getElem?_eq_getElem hk]; rfl
theorem Bs.len {h h' : H} {s : V} {xs : List UInt8} (a : Bs g h s xs) : lenB (E g) h' 27 s = some (.int .i64 xs.length) := Sl.lenB a ty27 rfl h'

theorem fdiv_nat (a b : Nat) : Int.fdiv (a : Int) (b : Int) = ((a / b : Nat) : Int) := by
 rw [Int.fdiv_eq_ediv_of_nonneg _ (by omega)]; exact (Int.natCast_ediv a b).symm
theorem wrapu8_nat (n : Nat) : IntKind.u8.wrap (n : Int) = ((n % 256 : Nat) : Int) := by
 unfold IntKind.wrap
 simp only [IntKind.bits, IntKind.signed, Bool.false_and, Bool.false_eq_true, if_false]
 omega
theorem u8_ofNat (n : Nat) : V.int .u8 ((n % 256 : Nat) : Int) = u8 (UInt8.ofNat n) := by
 unfold u8
 rw [UInt8.toNat_ofNat']

def leB : Nat → Nat → List UInt8
 | _, 0 => []
 | n, k + 1 => UInt8.ofNat n :: leB (n / 256) k
theorem leB_length : ∀ (k n : Nat), (leB n k).length = k
 | 0, _ => rfl
 | k + 1, n => by simp [leB, leB_length k]
theorem leB_snoc : ∀ (k n : Nat), leB n (k + 1) = leB n k ++ [UInt8.ofNat (n / 256 ^ k)]
 | 0, n => by simp [leB]
 | k + 1, n => by
  rw [leB, leB_snoc k (n / 256)]
  simp only [leB, List.cons_append, Nat.div_div_eq_div_mul]
  rw [Nat.pow_succ, Nat.mul_comm]

abbrev GrewB (g : T (List V)) (h : H) (s : V) (h' : H) (s' : V) (xs : List UInt8) : Prop := Grew (E g) 5 1 h s h' s' xs.length (xs.map u8)
abbrev BufB (g : T (List V)) (h : H) (s : V) (xs : List UInt8) : Prop := Buf (E g) h 5 1 s xs.length (xs.map u8)

theorem u8_one (xs : List UInt8) : (xs.map u8).all V.one = true := by
 rw [List.all_eq_true]; intro x hx; obtain ⟨c, _, rfl⟩ := List.mem_map.1 hx; rfl

theorem app_ok {h0 h : H} {s0 s x : V} {xs ys : List UInt8} {t2 : Nat} {j : TI} {Q : V → H → Prop} (gr : GrewB g h0 s0 h s xs) (hj : (E g).tys.get t2 = some j) (hjd : (∃ e', j.desc = .slice e') ∨ j.desc = .string)
  (hl : lenV x = some ys.length) (hc : srcCells (E g) h 1 ys.length x = some (ys.map u8)) (hsize : xs.length + ys.length ≤ 2 ^ 40)
  (k : ∀ s' h', GrewB g h0 s0 h' s' (xs ++ ys) → Fix (fun c => c < h.next ∧ ∀ o m cc, s ≠ .slice c o m cc) h h' → Q s' h') : Sat1 (r1 (appendB (E g) h 27 t2 s x)) Q :=
 sat_grow gr.buf gr.low ty27 rfl hj hjd ty5 rfl (by decide) (by decide) hl hc (by simp) (u8_one ys) (by simp only [Nat.mul_one]; omega) fun s' h' a =>
  k s' h' ((gr.trans a).len (by rw [List.length_append]) (by rw [List.map_append])) a.fix

end Go.Proofs.OP

set_option linter.unusedSimpArgs false
namespace Go.Proofs.OP
open Go Go.Ev
open Go.Proofs
open Nat (reduceLT reduceEqDiff)
variable {g : T (List V)}

abbrev Kept (h h' : H) : Prop := Fix (· < h.next) h h'

theorem le_ok {h : H} : WF (E g) 90 [] h fun v h' => v = .agg [] ∧ Kept h h' := by
 refine WF.enter fn90 rfl ?_
 ((repeat refine WC.seq ?_); refine WC.run ?_)
 (try simp only [wk, wl, wx, reduceLT, reduceEqDiff, Nat.reduceBEq, reduceIte])
 refine wop_alloc ty188 ?_
 intro h1 a1 n1 f1
 (try simp only [wk, wl, wx, reduceLT, reduceEqDiff, Nat.reduceBEq, reduceIte])
 ((repeat refine WC.seq ?_); refine WC.run ?_)
 (try simp only [wk, wl, wx, reduceLT, reduceEqDiff, Nat.reduceBEq, reduceIte])
 refine wop_alloc ty188 ?_
 intro h2 a2 n2 f2
 (try simp only [wk, wl, wx, reduceLT, reduceEqDiff, Nat.reduceBEq, reduceIte])
 ((repeat refine WC.seq ?_); refine WC.run ?_)
 (try simp only [wk, wl, wx, reduceLT, reduceEqDiff, Nat.reduceBEq, reduceIte, a2.agg ty188 rfl (o := 0) (Nat.le_refl 0)])
 refine sat_store (a1.fix f2 (by omega)) ty188 rfl (by decide) rfl ?_
 intro h3 a3 n3 f3
 (try simp only [wk, wl, wx, reduceLT, reduceEqDiff, Nat.reduceBEq, reduceIte])
 refine WC.ret ?_
 (try simp only [wk, wl, wx, reduceLT, reduceEqDiff, Nat.reduceBEq, reduceIte, a3.agg ty188 rfl (o := 0) (Nat.le_refl 0)])
 exact ⟨by trivial, by omega, fun c hc => by rw [f3.same c (by omega), f2.same c (by omega), f1.same c hc]⟩

theorem BufB.kept {h h' : H} {s : V} {xs : List UInt8} (b : BufB g h s xs) (l : In (· < h.next) s) (f : Kept h h') : GrewB g h s h' s xs := (Grew.refl b l).keep f

end Go.Proofs.OP

set_option linter.unusedSimpArgs false
namespace Go.Proofs.OP
open Go Go.Ev
open Go.Proofs
open Nat (reduceLT reduceEqDiff)
variable {g : T (List V)}

def isNils : V → Bool
 | .nils => true
 | _ => false
theorem eq_nils {E : Env} {h h' : H} {c : Bool} {t e sz n : Nat} {s : V} {vs : List V} {i : TI} (a : Sl E h' sz s n vs) (ht : E.tys.get t = some i) (hd : i.desc = .slice e) : binV E h c .eql t s .nils = some (.bool (isNils s)) := by
 have hl := a.len
 unfold lenV at hl
 split at hl
 ·simp [binV, eqV, ht, hd, isNils]
 ·simp [binV, eqV, ht, hd, isNils]
 ·simp [binV, eqV, ht, hd, isNils]
 ·exact absurd rfl (a.slice _)
 ·cases hl
theorem isNils_empty {E : Env} {h : H} {sz n : Nat} {s : V} {vs : List V} (a : Sl E h sz s n vs) (hn : isNils s = true) : s = .nils ∧ n = 0 ∧ vs = [] := by
 unfold isNils at hn
 split at hn
 ·have hl := a.len
  simp only [lenV] at hl; injection hl with hl; subst hl
  have := a.size
  exact ⟨rfl, rfl, by simpa using this⟩
 ·cases hn

abbrev OwnB (g : T (List V)) (h h' : H) (v : V) (xs : List UInt8) : Prop := BufB g h' v xs ∧ In (· < h'.next) v ∧ Kept h h' ∧ In (fun b => h.next ≤ b) v

theorem clone_ok {h : H} {s : V} {xs : List UInt8} (hb : Bs g h s xs) (hs : In (· < h.next) s) (hlen : xs.length ≤ 2 ^ 39) : WF (E g) 44 [s] h fun v h' => OwnB g h h' v xs := by
 refine WF.enter fn44 rfl ?_
 ((repeat refine WC.seq ?_); refine WC.run ?_)
 (try simp only [wk, wl, wx, reduceLT, reduceEqDiff, Nat.reduceBEq, reduceIte])
 ((repeat refine WC.seq ?_); refine WC.run ?_)
 (try simp only [wk, wl, wx, reduceLT, reduceEqDiff, Nat.reduceBEq, reduceIte, eq_nils hb ty27 rfl])
 cases hn : isNils s with
 | true =>
  obtain ⟨rfl, _, h3⟩ := isNils_empty hb hn
  have hx : xs = [] := by simpa using h3
  subst hx
  (repeat refine WC.seq ?_)
  refine WC.cond (b := true) (by (try simp only [wk, wl, wx, reduceLT, reduceEqDiff, Nat.reduceBEq, reduceIte]); (try simp); (try omega)) ?_
  (try simp only [wk, wl, wx, reduceLT, reduceEqDiff, Nat.reduceBEq, reduceIte])
  ((repeat refine WC.seq ?_); refine WC.run ?_)
  (try simp only [wk, wl, wx, reduceLT, reduceEqDiff, Nat.reduceBEq, reduceIte])
  refine WC.ret ?_
  (try simp only [wk, wl, wx, reduceLT, reduceEqDiff, Nat.reduceBEq, reduceIte])
  exact ⟨.nil, In.nils, Fix.refl _ _, In.nils⟩
 | false =>
  (repeat refine WC.seq ?_)
  refine WC.cond (b := false) (by (try simp only [wk, wl, wx, reduceLT, reduceEqDiff, Nat.reduceBEq, reduceIte]); (try simp); (try omega)) (WC.skip ?_)
  (try simp only [wk, wl, wx, reduceLT, reduceEqDiff, Nat.reduceBEq, reduceIte])
  ((repeat refine WC.seq ?_); refine WC.run ?_)
  (try simp only [wk, wl, wx, reduceLT, reduceEqDiff, Nat.reduceBEq, reduceIte])
  refine sat_slice0 ty27 rfl ty5 rfl (by decide) ?_
  intro h1 b1 n1 f1
  (try simp only [wk, wl, wx, reduceLT, reduceEqDiff, Nat.reduceBEq, reduceIte])
  refine app_ok (h0 := h1) (xs := []) (ys := xs) (Grew.refl b1 (fun b o n c e => by injection e with e; omega)) ty27 (.inl ⟨_, rfl⟩) (hb.fix hs f1).len (hb.fix hs f1).cells (by simp; omega) ?_
  intro s' h2 g2 f2
  (try simp only [wk, wl, wx, reduceLT, reduceEqDiff, Nat.reduceBEq, reduceIte])
  refine WC.ret ?_
  (try simp only [wk, wl, wx, reduceLT, reduceEqDiff, Nat.reduceBEq, reduceIte])
  refine ⟨g2.buf, g2.low, ⟨by have := g2.fix.next; omega, fun c hc => ?_⟩, fun b o n c e => ?_⟩
  ·rw [g2.fix.same c ⟨by omega, fun o m cc e => by injection e with e; omega⟩, f1.same c hc]
  ·rcases g2.own _ _ _ _ e with q | ⟨o, k, c, q⟩
   ·omega
   ·injection q with q; omega

end Go.Proofs.OP

set_option linter.unusedSimpArgs false
namespace Go.Proofs.OP
open Go Go.Ev
open Go.Proofs
open Nat (reduceLT reduceEqDiff)
variable {g : T (List V)}

def U (n : Int) : Nat := (n % 18446744073709551616).toNat
theorem U_lt (n : Int) : U n < 2 ^ 64 := by unfold U; omega
theorem wrapu64_U (n : Int) : IntKind.u64.wrap n = (U n : Int) := by
 unfold IntKind.wrap U
 simp only [IntKind.bits, IntKind.signed, Bool.false_and, Bool.false_eq_true, if_false]
 omega
theorem bin_seql {E : Env} {h : H} {c : Bool} {t : Nat} {a b : List UInt8} : binV E h c .eql t (.str a) (.str b) = some (.bool (a == b)) := rfl
theorem bin_sneq {E : Env} {h : H} {c : Bool} {t : Nat} {a b : List UInt8} : binV E h c .neq t (.str a) (.str b) = some (.bool (!(a == b))) := rfl
theorem len_str {h : H} {s : List UInt8} : lenB (E g) h 9 (.str s) = some (.int .i64 s.length) := by
 simp only [lenB, ty9]

def nameE (s : List UInt8) : Int := if s = [] then 9 else if 64 < s.length then 21 else 0

theorem rnamed_ok {h : H} {s : List UInt8} : WF (E g) 62 [.str s] h fun v h' => v = .int .i64 (nameE s) ∧ h' = h := by
 refine WF.enter fn62 rfl ?_
 ((repeat refine WC.seq ?_); refine WC.run ?_)
 (try simp only [wk, wl, wx, reduceLT, reduceEqDiff, Nat.reduceBEq, reduceIte])
 ((repeat refine WC.seq ?_); refine WC.run ?_)
 (try simp only [wk, wl, wx, reduceLT, reduceEqDiff, Nat.reduceBEq, reduceIte, bin_seql])
 (repeat refine WC.seq ?_)
 cases s with
 | nil =>
  refine WC.cond (b := true) (by (try simp only [wk, wl, wx, reduceLT, reduceEqDiff, Nat.reduceBEq, reduceIte]); (try simp); (try omega)) ?_
  ((repeat refine WC.seq ?_); refine WC.run ?_)
  (try simp only [wk, wl, wx, reduceLT, reduceEqDiff, Nat.reduceBEq, reduceIte])
  refine WC.ret ?_
  (try simp only [wk, wl, wx, reduceLT, reduceEqDiff, Nat.reduceBEq, reduceIte])
  exact ⟨rfl, by trivial⟩
 | cons c r =>
  refine WC.cond (b := false) (by (try simp only [wk, wl, wx, reduceLT, reduceEqDiff, Nat.reduceBEq, reduceIte]); (try simp); (try omega)) (WC.skip ?_)
  (try simp only [wk, wl, wx, reduceLT, reduceEqDiff, Nat.reduceBEq, reduceIte])
  ((repeat refine WC.seq ?_); refine WC.run ?_)
  (try simp only [wk, wl, wx, reduceLT, reduceEqDiff, Nat.reduceBEq, reduceIte, len_str])
  (repeat refine WC.seq ?_)
  by_cases hl : 64 < r.length + 1
  ·refine WC.cond (b := true) (by (try simp only [wk, wl, wx, reduceLT, reduceEqDiff, Nat.reduceBEq, reduceIte]); (try simp); (try omega)) ?_
   ((repeat refine WC.seq ?_); refine WC.run ?_)
   (try simp only [wk, wl, wx, reduceLT, reduceEqDiff, Nat.reduceBEq, reduceIte])
   refine WC.ret ?_
   (try simp only [wk, wl, wx, reduceLT, reduceEqDiff, Nat.reduceBEq, reduceIte])
   exact ⟨by rw [nameE, if_neg (by simp), if_pos (by simpa using hl)], by trivial⟩
  ·refine WC.cond (b := false) (by (try simp only [wk, wl, wx, reduceLT, reduceEqDiff, Nat.reduceBEq, reduceIte]); (try simp); (try omega)) (WC.skip ?_)
   (try simp only [wk, wl, wx, reduceLT, reduceEqDiff, Nat.reduceBEq, reduceIte])
   ((repeat refine WC.seq ?_); refine WC.run ?_)
   (try simp only [wk, wl, wx, reduceLT, reduceEqDiff, Nat.reduceBEq, reduceIte])
   refine WC.ret ?_
   (try simp only [wk, wl, wx, reduceLT, reduceEqDiff, Nat.reduceBEq, reduceIte])
   exact ⟨by rw [nameE, if_neg (by simp), if_neg (by simpa using hl)], by trivial⟩
end Go.Proofs.OP

set_option linter.unusedSimpArgs false
namespace Go.Proofs.OP
open Go Go.Ev
open Go.Proofs
open Nat (reduceLT reduceEqDiff)
variable {g : T (List V)}

def i64 (n : Int) : V := .int .i64 n
structure SymD where
 name : List UInt8
 sec : Int
 off : Int
 glob : Bool
 weak : Bool
structure RelD where
 sec : Int
 off : Int
 kind : Int
 sym : List UInt8
 add : Int
structure ObjD where
 name : List UInt8
 code : List UInt8
 data : List UInt8
 syms : List SymD
 rels : List RelD
 needs : List (List UInt8)
 entry : List UInt8
def symV (s : SymD) : List V := [.str s.name, i64 s.sec, i64 s.off, .bool s.glob, .bool s.weak]
def relV (r : RelD) : List V := [i64 r.sec, i64 r.off, i64 r.kind, .str r.sym, i64 r.add]
abbrev Ss (g : T (List V)) (h : H) (s : V) (L : List (List UInt8)) : Prop := Vs (E g) h V.str s L
abbrev Sy (g : T (List V)) (h : H) (s : V) (L : List SymD) : Prop := Rcs (E g) h 5 symV s L
abbrev Re (g : T (List V)) (h : H) (s : V) (L : List RelD) : Prop := Rcs (E g) h 5 relV s L

structure Oc where
 code : V
 data : V
 syms : V
 rels : V
 needs : V
def Oc.cells (c : Oc) (o : ObjD) : List V := [.str o.name, c.code, c.data, c.syms, c.rels, c.needs, .str o.entry]
structure Ob (g : T (List V)) (h : H) (K : Nat → Prop) (c : Oc) (o : ObjD) : Prop where
 code : Bs g h c.code o.code
 data : Bs g h c.data o.data
 syms : Sy g h c.syms o.syms
 rels : Re g h c.rels o.rels
 needs : Ss g h c.needs o.needs
 inC : In K c.code
 inD : In K c.data
 inS : In K c.syms
 inR : In K c.rels
 inN : In K c.needs
theorem Ob.fix {h h' : H} {K K' : Nat → Prop} {c : Oc} {o : ObjD} (a : Ob g h K c o) (f : Fix K' h h') (hs : ∀ b, K b → K' b) : Ob g h' K c o :=
 ⟨Sl.fix a.code (a.inC.sub hs) f, Sl.fix a.data (a.inD.sub hs) f, Sl.fix a.syms (a.inS.sub hs) f, Sl.fix a.rels (a.inR.sub hs) f, Sl.fix a.needs (a.inN.sub hs) f, a.inC, a.inD, a.inS, a.inR, a.inN⟩
theorem Ob.up {h : H} {K K' : Nat → Prop} {c : Oc} {o : ObjD} (a : Ob g h K c o) (hs : ∀ b, K b → K' b) : Ob g h K' c o :=
 ⟨a.code, a.data, a.syms, a.rels, a.needs, a.inC.sub hs, a.inD.sub hs, a.inS.sub hs, a.inR.sub hs, a.inN.sub hs⟩

def nameT (s : List UInt8) : Int := if 64 < s.length then 21 else 0
theorem named_ok {h : H} {s : List UInt8} {e : Bool} : WF (E g) 80 [.str s, .bool e] h fun v h' => v = .int .i64 (if e then nameT s else nameE s) ∧ h' = h := by
 refine WF.enter fn80 rfl ?_
 ((repeat refine WC.seq ?_); refine WC.run ?_)
 (try simp only [wk, wl, wx, reduceLT, reduceEqDiff, Nat.reduceBEq, reduceIte])
 (repeat refine WC.seq ?_)
 refine WC.block ?_
 ((repeat refine WC.seq ?_); refine WC.run ?_)
 have hz : (V.str ([] : List UInt8)) = .str [] := rfl
 cases s with
 | nil =>
  cases e with
  | false =>
   (try simp only [wk, wl, wx, reduceLT, reduceEqDiff, Nat.reduceBEq, reduceIte, bin_seql, beq_self_eq_true, un_not, Bool.not_false])
   (repeat refine WC.seq ?_)
   refine WC.cond (b := true) (by (try simp only [wk, wl, wx, reduceLT, reduceEqDiff, Nat.reduceBEq, reduceIte]); (try simp); (try omega)) ?_
   ((repeat refine WC.seq ?_); refine WC.run ?_)
   (try simp only [wk, wl, wx, reduceLT, reduceEqDiff, Nat.reduceBEq, reduceIte])
   refine WC.ret ?_
   (try simp only [wk, wl, wx, reduceLT, reduceEqDiff, Nat.reduceBEq, reduceIte])
   exact ⟨rfl, by trivial⟩
  | true =>
   (try simp only [wk, wl, wx, reduceLT, reduceEqDiff, Nat.reduceBEq, reduceIte, bin_seql, beq_self_eq_true, un_not, Bool.not_true])
   (repeat refine WC.seq ?_)
   refine WC.cond (b := false) (by (try simp only [wk, wl, wx, reduceLT, reduceEqDiff, Nat.reduceBEq, reduceIte]); (try simp); (try omega)) ?_
   ((repeat refine WC.seq ?_); refine WC.run ?_)
   (try simp only [wk, wl, wx, reduceLT, reduceEqDiff, Nat.reduceBEq, reduceIte, len_str])
   (repeat refine WC.seq ?_)
   refine WC.cond (b := false) (by (try simp only [wk, wl, wx, reduceLT, reduceEqDiff, Nat.reduceBEq, reduceIte]); (try simp); (try omega)) (WC.skip ?_)
   (try simp only [wk, wl, wx, reduceLT, reduceEqDiff, Nat.reduceBEq, reduceIte])
   ((repeat refine WC.seq ?_); refine WC.run ?_)
   (try simp only [wk, wl, wx, reduceLT, reduceEqDiff, Nat.reduceBEq, reduceIte])
   refine WC.ret ?_
   (try simp only [wk, wl, wx, reduceLT, reduceEqDiff, Nat.reduceBEq, reduceIte])
   exact ⟨rfl, by trivial⟩
 | cons c r =>
  have hb : ((c :: r) == ([] : List UInt8)) = false := rfl
  (try simp only [wk, wl, wx, reduceLT, reduceEqDiff, Nat.reduceBEq, reduceIte, bin_seql, hb])
  (repeat refine WC.seq ?_)
  refine WC.cond (b := false) (by (try simp only [wk, wl, wx, reduceLT, reduceEqDiff, Nat.reduceBEq, reduceIte]); (try simp); (try omega)) ?_
  ((repeat refine WC.seq ?_); refine WC.run ?_)
  (try simp only [wk, wl, wx, reduceLT, reduceEqDiff, Nat.reduceBEq, reduceIte, len_str])
  (repeat refine WC.seq ?_)
  by_cases hl : 64 < r.length + 1
  ·refine WC.cond (b := true) (by (try simp only [wk, wl, wx, reduceLT, reduceEqDiff, Nat.reduceBEq, reduceIte]); (try simp); (try omega)) ?_
   ((repeat refine WC.seq ?_); refine WC.run ?_)
   (try simp only [wk, wl, wx, reduceLT, reduceEqDiff, Nat.reduceBEq, reduceIte])
   refine WC.ret ?_
   (try simp only [wk, wl, wx, reduceLT, reduceEqDiff, Nat.reduceBEq, reduceIte])
   refine ⟨?_, by trivial⟩
   cases e <;> simp [nameE, nameT, hl]
  ·refine WC.cond (b := false) (by (try simp only [wk, wl, wx, reduceLT, reduceEqDiff, Nat.reduceBEq, reduceIte]); (try simp); (try omega)) (WC.skip ?_)
   (try simp only [wk, wl, wx, reduceLT, reduceEqDiff, Nat.reduceBEq, reduceIte])
   ((repeat refine WC.seq ?_); refine WC.run ?_)
   (try simp only [wk, wl, wx, reduceLT, reduceEqDiff, Nat.reduceBEq, reduceIte])
   refine WC.ret ?_
   (try simp only [wk, wl, wx, reduceLT, reduceEqDiff, Nat.reduceBEq, reduceIte])
   refine ⟨?_, by trivial⟩
   cases e <;> simp [nameE, nameT, hl]

end Go.Proofs.OP

set_option linter.unusedSimpArgs false
namespace Go.Proofs.OP
open Go Go.Ev
open Go.Proofs
open Nat (reduceLT reduceEqDiff)
variable {g : T (List V)}

def two (p : Int × Int) : List V := [i64 p.1, i64 p.2]
end Go.Proofs.OP
