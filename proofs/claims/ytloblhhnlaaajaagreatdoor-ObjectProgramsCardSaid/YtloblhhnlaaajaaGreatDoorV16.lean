/- What walks of this seat know of its types and functions. -/
import Derived.Test.YtloblhhnlaaajaaGreatDoorV12
import Derived.Test.YtloblhhnlaaajaaGreatDoorProg
import Derived.KernelRfl
import Derived.Test.YtloblhhnlaaajaaGreatDoorV15
import Derived.Test.YtloblhhnlaaajaaGreatDoorV14
import Derived.Test.YtloblhhnlaaajaaGreatDoorV13
set_option linter.unusedVariables false
set_option linter.unusedSimpArgs false
set_option linter.defProp false
namespace Go.Proofs.OP
open Go Go.Ev
open Go.Proofs

def es : List Nat := [73, 92, 93, 137, 138, 178]
def fl : List Nat := List.range 7 ++ List.range' 8 170
@[irreducible] noncomputable def E (g : T (List V)) : Env := envOf2 Tryz.prog (List.range 273) fl [] [7] es g
variable {g : T (List V)}
theorem E_tys : (E g).tys = tysOf Tryz.prog (List.range 273) := by unfold E envOf2; dsimp only
theorem E_fns : (E g).fns = fnsOf Tryz.prog fl := by unfold E envOf2; dsimp only
theorem E_7 : (E g).fns.get 7 = none := by rw [E_fns]; exact fn_out (by kernel_rfl)
theorem awake_ok {h : H} {Q : V → H → Prop} (k : Q (.bool true) { t := .lf, next := h.next }) : WF (E g) 7 [] h Q :=
 WF.done E_7 (by unfold E envOf2; rfl) (by unfold E envOf2; exact T.get_lf 7) (by unfold E envOf2; rfl) k
theorem ty2 : (E g).tys.get 2 = some { desc := .int .i64, size := 1, bytes := 8, zero := [.int .i64 0], zv := .int .i64 0, cmp := true } := by rw [E_tys]; exact ty_at (by kernel_rfl) rfl
theorem ty3 : (E g).tys.get 3 = some { desc := .int .i64, size := 1, bytes := 8, zero := [.int .i64 0], zv := .int .i64 0, cmp := true } := by rw [E_tys]; exact ty_at (by kernel_rfl) rfl
theorem ty4 : (E g).tys.get 4 = some { desc := .bool, size := 1, bytes := 1, zero := [.bool false], zv := .bool false, cmp := true } := by rw [E_tys]; exact ty_at (by kernel_rfl) rfl
theorem ty5 : (E g).tys.get 5 = some { desc := .int .u8, size := 1, bytes := 1, zero := [.int .u8 0], zv := .int .u8 0, cmp := true } := by rw [E_tys]; exact ty_at (by kernel_rfl) rfl
theorem ty9 : (E g).tys.get 9 = some { desc := .string, size := 1, bytes := 16, zero := [.str []], zv := .str [], cmp := true } := by rw [E_tys]; exact ty_at (by kernel_rfl) rfl
theorem ty22 : (E g).tys.get 22 = some { desc := .slice 5, size := 1, bytes := 24, zero := [.nils], zv := .nils, cmp := false } := by rw [E_tys]; exact ty_at (by kernel_rfl) rfl
theorem ty25 : (E g).tys.get 25 = some { desc := .slice 9, size := 1, bytes := 24, zero := [.nils], zv := .nils, cmp := false } := by rw [E_tys]; exact ty_at (by kernel_rfl) rfl
theorem ty30 : (E g).tys.get 30 = some { desc := .int .i64, size := 1, bytes := 8, zero := [.int .i64 0], zv := .int .i64 0, cmp := true } := by rw [E_tys]; exact ty_at (by kernel_rfl) rfl
theorem ty178 : (E g).tys.get 178 = some { desc := .array 4 5, size := 4, bytes := 4, zero := [.int .u8 0, .int .u8 0, .int .u8 0, .int .u8 0], zv := .agg [.int .u8 0, .int .u8 0, .int .u8 0, .int .u8 0], cmp := true } := by rw [E_tys]; exact ty_at (by kernel_rfl) rfl
theorem ty185 : (E g).tys.get 185 = some { desc := .struct #[], size := 0, bytes := 0, zero := [], zv := .agg [], cmp := true } := by rw [E_tys]; exact ty_at (by kernel_rfl) rfl
theorem ty188 : (E g).tys.get 188 = some { desc := .int .u64, size := 1, bytes := 8, zero := [.int .u64 0], zv := .int .u64 0, cmp := true } := by rw [E_tys]; exact ty_at (by kernel_rfl) rfl
theorem fn3 : (E g).fns.get 3 = some { nt := 74, body := Tryz.f3.body.get!, res := [.tmp 4] } := by rw [E_fns]; exact fn_in (FI.of_mk Tryz.func3 (show Tryz.f3.body = some Tryz.f3.body.get! by kernel_rfl) (by kernel_rfl) (show Tryz.f3.ntmps = 74 by kernel_rfl) (show Tryz.f3.results.toList = [.tmp 4] by kernel_rfl)) rfl
theorem fn39 : (E g).fns.get 39 = some { nt := 16, body := Tryz.f39.body.get!, res := [.tmp 4] } := by rw [E_fns]; exact fn_in (FI.of_mk Tryz.func39 (show Tryz.f39.body = some Tryz.f39.body.get! by kernel_rfl) (by kernel_rfl) (show Tryz.f39.ntmps = 16 by kernel_rfl) (show Tryz.f39.results.toList = [.tmp 4] by kernel_rfl)) rfl
theorem fn42 : (E g).fns.get 42 = some { nt := 9, body := Tryz.f42.body.get!, res := [.tmp 4] } := by rw [E_fns]; exact fn_in (FI.of_mk Tryz.func42 (show Tryz.f42.body = some Tryz.f42.body.get! by kernel_rfl) (by kernel_rfl) (show Tryz.f42.ntmps = 9 by kernel_rfl) (show Tryz.f42.results.toList = [.tmp 4] by kernel_rfl)) rfl
theorem fn43 : (E g).fns.get 43 = some { nt := 8, body := Tryz.f43.body.get!, res := [.tmp 2] } := by rw [E_fns]; exact fn_in (FI.of_mk Tryz.func43 (show Tryz.f43.body = some Tryz.f43.body.get! by kernel_rfl) (by kernel_rfl) (show Tryz.f43.ntmps = 8 by kernel_rfl) (show Tryz.f43.results.toList = [.tmp 2] by kernel_rfl)) rfl
theorem fn54 : (E g).fns.get 54 = some { nt := 24, body := Tryz.f54.body.get!, res := [.tmp 6] } := by rw [E_fns]; exact fn_in (FI.of_mk Tryz.func54 (show Tryz.f54.body = some Tryz.f54.body.get! by kernel_rfl) (by kernel_rfl) (show Tryz.f54.ntmps = 24 by kernel_rfl) (show Tryz.f54.results.toList = [.tmp 6] by kernel_rfl)) rfl
theorem fn84 : (E g).fns.get 84 = some { nt := 8, body := Tryz.f84.body.get!, res := [.tmp 2] } := by rw [E_fns]; exact fn_in (FI.of_mk Tryz.func84 (show Tryz.f84.body = some Tryz.f84.body.get! by kernel_rfl) (by kernel_rfl) (show Tryz.f84.ntmps = 8 by kernel_rfl) (show Tryz.f84.results.toList = [.tmp 2] by kernel_rfl)) rfl
theorem fn95 : (E g).fns.get 95 = some { nt := 19, body := Tryz.f95.body.get!, res := [.tmp 4] } := by rw [E_fns]; exact fn_in (FI.of_mk Tryz.func95 (show Tryz.f95.body = some Tryz.f95.body.get! by kernel_rfl) (by kernel_rfl) (show Tryz.f95.ntmps = 19 by kernel_rfl) (show Tryz.f95.results.toList = [.tmp 4] by kernel_rfl)) rfl
theorem fn96 : (E g).fns.get 96 = some { nt := 3, body := Tryz.f96.body.get!, res := [.cell 0 185] } := by rw [E_fns]; exact fn_in (FI.of_mk Tryz.func96 (show Tryz.f96.body = some Tryz.f96.body.get! by kernel_rfl) (by kernel_rfl) (show Tryz.f96.ntmps = 3 by kernel_rfl) (show Tryz.f96.results.toList = [.cell 0 185] by kernel_rfl)) rfl
theorem fn132 : (E g).fns.get 132 = some { nt := 19, body := Tryz.f132.body.get!, res := [] } := by rw [E_fns]; exact fn_in (FI.of_mk Tryz.func132 (show Tryz.f132.body = some Tryz.f132.body.get! by kernel_rfl) (by kernel_rfl) (show Tryz.f132.ntmps = 19 by kernel_rfl) (show Tryz.f132.results.toList = [] by kernel_rfl)) rfl
end Go.Proofs.OP

set_option linter.unusedSimpArgs false
namespace Go.Proofs.OP
open Go Go.Ev
open Go.Proofs
open Nat (reduceLT reduceEqDiff)
variable {g : T (List V)}

def u8 (c : UInt8) : V := .int .u8 c.toNat
abbrev Bs (g : T (List V)) (h : H) (s : V) (xs : List UInt8) : Prop := Sl (E g) h 1 s xs.length (xs.map u8)

theorem Bs.at {h : H} {s : V} {xs : List UInt8} (a : Bs g h s xs) {k : Nat} (hk : k < xs.length) :
  ∃ p, indexAddrV (E g) 22 s (.int .i64 k) = some p ∧ loadP (E g) h 5 p = some (u8 xs[k]) := by
 obtain ⟨p, h1, h2⟩ := Sl.place a ty22 rfl ty5 rfl (by decide) hk
 refine ⟨p, h1, ?_⟩
 rw [h2 h fun _ _ _ _ _ => rfl]
 show (xs.map u8)[k * 1]? = _
 rw [Nat.mul_one, List.getElem?_map, List.getElem?_eq_getElem hk]; rfl
theorem Bs.len {h h' : H} {s : V} {xs : List UInt8} (a : Bs g h s xs) : lenB (E g) h' 22 s = some (.int .i64 xs.length) := Sl.lenB a ty22 rfl h'

theorem tdiv_nat (a b : Nat) : Int.tdiv (a : Int) (b : Int) = ((a / b : Nat) : Int) := rfl
theorem fdiv_nat (a b : Nat) : Int.fdiv (a : Int) (b : Int) = ((a / b : Nat) : Int) := by
 rw [Int.fdiv_eq_ediv_of_nonneg _ (by omega)]; exact (Int.natCast_ediv a b).symm
theorem wrapu64_nat (n : Nat) : IntKind.u64.wrap (n : Int) = ((n % 18446744073709551616 : Nat) : Int) := by
 unfold IntKind.wrap
 simp only [IntKind.bits, IntKind.signed, Bool.false_and, Bool.false_eq_true, if_false]
 omega
theorem wrapu8_nat (n : Nat) : IntKind.u8.wrap (n : Int) = ((n % 256 : Nat) : Int) := by
 unfold IntKind.wrap
 simp only [IntKind.bits, IntKind.signed, Bool.false_and, Bool.false_eq_true, if_false]
 omega
theorem u8_ofNat (n : Nat) : V.int .u8 ((n % 256 : Nat) : Int) = u8 (UInt8.ofNat n) := by
 unfold u8
 rw [UInt8.toNat_ofNat']

def leB : Nat → Nat → List UInt8
 | _, 0 => []
 | n, k + 1 => UInt8.ofNat n :: leB (n / 256) k
theorem leB_length : ∀ (k n : Nat), (leB n k).length = k
 | 0, _ => rfl
 | k + 1, n => by simp [leB, leB_length k]
theorem leB_snoc : ∀ (k n : Nat), leB n (k + 1) = leB n k ++ [UInt8.ofNat (n / 256 ^ k)]
 | 0, n => by simp [leB]
 | k + 1, n => by
  rw [leB, leB_snoc k (n / 256)]
  simp only [leB, List.cons_append, Nat.div_div_eq_div_mul]
  rw [Nat.pow_succ, Nat.mul_comm]

abbrev GrewB (g : T (List V)) (h : H) (s : V) (h' : H) (s' : V) (xs : List UInt8) : Prop := Grew (E g) 5 1 h s h' s' xs.length (xs.map u8)
abbrev BufB (g : T (List V)) (h : H) (s : V) (xs : List UInt8) : Prop := Buf (E g) h 5 1 s xs.length (xs.map u8)

theorem u8_one (xs : List UInt8) : (xs.map u8).all V.one = true := by
 rw [List.all_eq_true]; intro x hx; obtain ⟨c, _, rfl⟩ := List.mem_map.1 hx; rfl

theorem app_ok {h0 h : H} {s0 s x : V} {xs ys : List UInt8} {t2 : Nat} {j : TI} {Q : V → H → Prop} (gr : GrewB g h0 s0 h s xs) (hj : (E g).tys.get t2 = some j) (hjd : (∃ e', j.desc = .slice e') ∨ j.desc = .string)
  (hl : lenV x = some ys.length) (hc : srcCells (E g) h 1 ys.length x = some (ys.map u8)) (hsize : xs.length + ys.length ≤ 2 ^ 40)
  (k : ∀ s' h', GrewB g h0 s0 h' s' (xs ++ ys) → Fix (fun c => c < h.next ∧ ∀ o m cc, s ≠ .slice c o m cc) h h' → Q s' h') : Sat1 (r1 (appendB (E g) h 22 t2 s x)) Q :=
 sat_grow gr.buf gr.low ty22 rfl hj hjd ty5 rfl (by decide) (by decide) hl hc (by simp) (u8_one ys) (by simp only [Nat.mul_one]; omega) fun s' h' a =>
  k s' h' ((gr.trans a).len (by rw [List.length_append]) (by rw [List.map_append])) a.fix

end Go.Proofs.OP

set_option linter.unusedSimpArgs false
namespace Go.Proofs.OP
open Go Go.Ev
open Go.Proofs
open Nat (reduceLT reduceEqDiff)
variable {g : T (List V)}

abbrev Kept (h h' : H) : Prop := Fix (· < h.next) h h'

theorem le_ok {h : H} : WF (E g) 96 [] h fun v h' => v = .agg [] ∧ Kept h h' := by
 refine WF.enter fn96 rfl ?_
 ((repeat refine WC.seq ?_); refine WC.run ?_)
 (try simp only [wk, wl, wx, reduceLT, reduceEqDiff, Nat.reduceBEq, reduceIte])
 refine wop_alloc ty185 ?_
 intro h1 a1 n1 f1
 (try simp only [wk, wl, wx, reduceLT, reduceEqDiff, Nat.reduceBEq, reduceIte])
 ((repeat refine WC.seq ?_); refine WC.run ?_)
 (try simp only [wk, wl, wx, reduceLT, reduceEqDiff, Nat.reduceBEq, reduceIte])
 refine wop_alloc ty185 ?_
 intro h2 a2 n2 f2
 (try simp only [wk, wl, wx, reduceLT, reduceEqDiff, Nat.reduceBEq, reduceIte])
 ((repeat refine WC.seq ?_); refine WC.run ?_)
 (try simp only [wk, wl, wx, reduceLT, reduceEqDiff, Nat.reduceBEq, reduceIte, a2.agg ty185 rfl (o := 0) (Nat.le_refl 0)])
 refine sat_store (a1.fix f2 (by omega)) ty185 rfl (by decide) rfl ?_
 intro h3 a3 n3 f3
 (try simp only [wk, wl, wx, reduceLT, reduceEqDiff, Nat.reduceBEq, reduceIte])
 refine WC.ret ?_
 (try simp only [wk, wl, wx, reduceLT, reduceEqDiff, Nat.reduceBEq, reduceIte, a3.agg ty185 rfl (o := 0) (Nat.le_refl 0)])
 exact ⟨by trivial, by omega, fun c hc => by rw [f3.same c (by omega), f2.same c (by omega), f1.same c hc]⟩

theorem BufB.kept {h h' : H} {s : V} {xs : List UInt8} (b : BufB g h s xs) (l : In (· < h.next) s) (f : Kept h h') : GrewB g h s h' s xs := (Grew.refl b l).keep f

end Go.Proofs.OP

set_option linter.unusedSimpArgs false
namespace Go.Proofs.OP
open Go Go.Ev
open Go.Proofs
open Nat (reduceLT reduceEqDiff)
variable {g : T (List V)}

def isNils : V → Bool
 | .nils => true
 | _ => false
theorem eq_nils {E : Env} {h h' : H} {c : Bool} {t e sz n : Nat} {s : V} {vs : List V} {i : TI} (a : Sl E h' sz s n vs) (ht : E.tys.get t = some i) (hd : i.desc = .slice e) : binV E h c .eql t s .nils = some (.bool (isNils s)) := by
 have hl := a.len
 unfold lenV at hl
 split at hl
 ·simp [binV, eqV, ht, hd, isNils]
 ·simp [binV, eqV, ht, hd, isNils]
 ·simp [binV, eqV, ht, hd, isNils]
 ·exact absurd rfl (a.slice _)
 ·cases hl
theorem isNils_empty {E : Env} {h : H} {sz n : Nat} {s : V} {vs : List V} (a : Sl E h sz s n vs) (hn : isNils s = true) : s = .nils ∧ n = 0 ∧ vs = [] := by
 unfold isNils at hn
 split at hn
 ·have hl := a.len
  simp only [lenV] at hl; injection hl with hl; subst hl
  have := a.size
  exact ⟨rfl, rfl, by simpa using this⟩
 ·cases hn

abbrev OwnB (g : T (List V)) (h h' : H) (v : V) (xs : List UInt8) : Prop := BufB g h' v xs ∧ In (· < h'.next) v ∧ Kept h h' ∧ In (fun b => h.next ≤ b) v

theorem clone_ok {h : H} {s : V} {xs : List UInt8} (hb : Bs g h s xs) (hs : In (· < h.next) s) (hlen : xs.length ≤ 2 ^ 39) : WF (E g) 84 [s] h fun v h' => OwnB g h h' v xs := by
 refine WF.enter fn84 rfl ?_
 ((repeat refine WC.seq ?_); refine WC.run ?_)
 (try simp only [wk, wl, wx, reduceLT, reduceEqDiff, Nat.reduceBEq, reduceIte])
 ((repeat refine WC.seq ?_); refine WC.run ?_)
 (try simp only [wk, wl, wx, reduceLT, reduceEqDiff, Nat.reduceBEq, reduceIte, eq_nils hb ty22 rfl])
 cases hn : isNils s with
 | true =>
  obtain ⟨rfl, _, h3⟩ := isNils_empty hb hn
  have hx : xs = [] := by simpa using h3
  subst hx
  (repeat refine WC.seq ?_)
  refine WC.cond (b := true) (by (try simp only [wk, wl, wx, reduceLT, reduceEqDiff, Nat.reduceBEq, reduceIte]); (try simp); (try omega)) ?_
  (try simp only [wk, wl, wx, reduceLT, reduceEqDiff, Nat.reduceBEq, reduceIte])
  ((repeat refine WC.seq ?_); refine WC.run ?_)
  (try simp only [wk, wl, wx, reduceLT, reduceEqDiff, Nat.reduceBEq, reduceIte])
  refine WC.ret ?_
  (try simp only [wk, wl, wx, reduceLT, reduceEqDiff, Nat.reduceBEq, reduceIte])
  exact ⟨.nil, In.nils, Fix.refl _ _, In.nils⟩
 | false =>
  (repeat refine WC.seq ?_)
  refine WC.cond (b := false) (by (try simp only [wk, wl, wx, reduceLT, reduceEqDiff, Nat.reduceBEq, reduceIte]); (try simp); (try omega)) (WC.skip ?_)
  (try simp only [wk, wl, wx, reduceLT, reduceEqDiff, Nat.reduceBEq, reduceIte])
  ((repeat refine WC.seq ?_); refine WC.run ?_)
  (try simp only [wk, wl, wx, reduceLT, reduceEqDiff, Nat.reduceBEq, reduceIte])
  refine sat_slice0 ty22 rfl ty5 rfl (by decide) ?_
  intro h1 b1 n1 f1
  (try simp only [wk, wl, wx, reduceLT, reduceEqDiff, Nat.reduceBEq, reduceIte])
  refine app_ok (h0 := h1) (xs := []) (ys := xs) (Grew.refl b1 (fun b o n c e => by injection e with e; omega)) ty22 (.inl ⟨_, rfl⟩) (hb.fix hs f1).len (hb.fix hs f1).cells (by simp; omega) ?_
  intro s' h2 g2 f2
  (try simp only [wk, wl, wx, reduceLT, reduceEqDiff, Nat.reduceBEq, reduceIte])
  refine WC.ret ?_
  (try simp only [wk, wl, wx, reduceLT, reduceEqDiff, Nat.reduceBEq, reduceIte])
  refine ⟨g2.buf, g2.low, ⟨by have := g2.fix.next; omega, fun c hc => ?_⟩, fun b o n c e => ?_⟩
  ·rw [g2.fix.same c ⟨by omega, fun o m cc e => by injection e with e; omega⟩, f1.same c hc]
  ·rcases g2.own _ _ _ _ e with q | ⟨o, k, c, q⟩
   ·omega
   ·injection q with q; omega

end Go.Proofs.OP

set_option linter.unusedSimpArgs false
namespace Go.Proofs.OP
open Go Go.Ev
open Go.Proofs
open Nat (reduceLT reduceEqDiff)
variable {g : T (List V)}

def U (n : Int) : Nat := (n % 18446744073709551616).toNat
theorem U_lt (n : Int) : U n < 2 ^ 64 := by unfold U; omega
theorem wrapu64_U (n : Int) : IntKind.u64.wrap n = (U n : Int) := by
 unfold IntKind.wrap U
 simp only [IntKind.bits, IntKind.signed, Bool.false_and, Bool.false_eq_true, if_false]
 omega
theorem put_ok {h : H} {s : V} {xs : List UInt8} {n : Int} {k : Nat} (hb : BufB g h s xs) (hlow : In (· < h.next) s) (hk : k ≤ 8) (hlen : xs.length ≤ 2 ^ 39) :
  WF (E g) 54 [s, .int .i64 n, .int .i64 k] h fun v h' => GrewB g h s h' v (xs ++ leB (U n) k) := by
 refine WF.enter fn54 rfl ?_
 ((repeat refine WC.seq ?_); refine WC.run ?_)
 (try simp only [wk, wl, wx, reduceLT, reduceEqDiff, Nat.reduceBEq, reduceIte])
 ((repeat refine WC.seq ?_); refine WC.run ?_)
 (try simp only [wk, wl, wx, reduceLT, reduceEqDiff, Nat.reduceBEq, reduceIte, conv_int ty2 ty188 rfl, wrapu64_U])
 ((repeat refine WC.seq ?_); refine WC.run ?_)
 (try simp only [wk, wl, wx, reduceLT, reduceEqDiff, Nat.reduceBEq, reduceIte])
 (repeat refine WC.seq ?_)
 refine WC.block ?_
 refine WC.while (fun m fr hh => ∃ ts i v, fr = ⟨ts, 24, [], 54, none⟩ ∧ GrewB g h s hh v (xs ++ leB (U n) i) ∧ m = k - i ∧ i ≤ k ∧ ts.get 0 = some v ∧ ts.get 2 = some (.int .i64 k) ∧ ts.get 7 = some (.int .u64 (U n / 256 ^ i : Nat)) ∧ ts.get 8 = some (.int .i64 i)) ?_ ⟨_, 0, s, rfl, ?_, rfl, by omega, ?_, ?_, ?_, ?_⟩
 ·rintro m fr hh ⟨ts, i, v, rfl, gr, rfl, hi, h0, h2, h7, h8⟩
  ((repeat refine WC.seq ?_); refine WC.run ?_)
  (try simp only [wk, wl, wx, reduceLT, reduceEqDiff, Nat.reduceBEq, reduceIte, h2, h8])
  (repeat refine WC.seq ?_)
  by_cases hlt : i < k
  ·refine WC.cond (b := true) (by (try simp only [wk, wl, wx, reduceLT, reduceEqDiff, Nat.reduceBEq, reduceIte]); (try simp); (try omega)) (WC.skip ?_)
   (try simp only [wk, wl, wx, reduceLT, reduceEqDiff, Nat.reduceBEq, reduceIte])
   (repeat refine WC.seq ?_)
   refine WC.block ?_
   ((repeat refine WC.seq ?_); refine WC.run ?_)
   (try simp only [wk, wl, wx, reduceLT, reduceEqDiff, Nat.reduceBEq, reduceIte, h0, h7, conv_int ty188 ty5 rfl, wrapu8_nat, u8_ofNat])
   refine sat_slice1 ty22 rfl ty5 rfl rfl rfl ?_
   intro h2' b2 n2 f2
   (try simp only [wk, wl, wx, reduceLT, reduceEqDiff, Nat.reduceBEq, reduceIte])
   refine app_ok (ys := [UInt8.ofNat (U n / 256 ^ i)]) (gr.keep f2) ty22 (.inl ⟨_, rfl⟩) b2.sl.len b2.sl.cells (by simp [leB_length]; omega) ?_
   intro s' h3 gr3 _
   rw [List.append_assoc, ← leB_snoc] at gr3
   (try simp only [wk, wl, wx, reduceLT, reduceEqDiff, Nat.reduceBEq, reduceIte])
   ((repeat refine WC.seq ?_); refine WC.run ?_)
   (try simp only [wk, wl, wx, reduceLT, reduceEqDiff, Nat.reduceBEq, reduceIte, h7, bin_quo (show (256 : Int) ≠ 0 by decide)])
   ((repeat refine WC.seq ?_); refine WC.run ?_)
   (try simp only [wk, wl, wx, reduceLT, reduceEqDiff, Nat.reduceBEq, reduceIte, h8, bin_add])
   refine ⟨_, ?_, _, i+1, s', rfl, gr3, rfl, by omega, ?_⟩
   ·omega
   (try simp only [wk, wl, wx, reduceLT, reduceEqDiff, Nat.reduceBEq, reduceIte, h2])
   refine ⟨trivial, trivial, ?_, ?_⟩
   ·have hU := U_lt n
    have h1 : U n / 256 ^ (i + 1) ≤ U n := Nat.div_le_self _ _
    have e : IntKind.u64.wrap (((U n / 256 ^ i : Nat) : Int).tdiv 256) = ((U n / 256 ^ (i + 1) : Nat) : Int) := by
     have : ((256 : Int)) = ((256 : Nat) : Int) := rfl
     rw [this, tdiv_nat, Nat.div_div_eq_div_mul, ← Nat.pow_succ, Nat.succ_eq_add_one, wrapu64_nat, Nat.mod_eq_of_lt (by omega)]
    rw [e]
   ·rw [wrap64 (by omega) (by omega)]; rfl
  ·refine WC.cond (b := false) (by (try simp only [wk, wl, wx, reduceLT, reduceEqDiff, Nat.reduceBEq, reduceIte]); (try simp); (try omega)) (WC.exit ?_)
   have : i = k := by omega
   subst this
   (try simp only [wk, wl, wx, reduceLT, reduceEqDiff, Nat.reduceBEq, reduceIte])
   ((repeat refine WC.seq ?_); refine WC.run ?_)
   (try simp only [wk, wl, wx, reduceLT, reduceEqDiff, Nat.reduceBEq, reduceIte, h0])
   refine WC.ret ?_
   (try simp only [wk, wl, wx, reduceLT, reduceEqDiff, Nat.reduceBEq, reduceIte])
   exact gr
 ·simpa [leB] using Grew.refl hb hlow
 all_goals (try simp only [wk, wl, wx, reduceLT, reduceEqDiff, Nat.reduceBEq, reduceIte])
 all_goals simp

theorem bin_seql {E : Env} {h : H} {c : Bool} {t : Nat} {a b : List UInt8} : binV E h c .eql t (.str a) (.str b) = some (.bool (a == b)) := rfl
theorem bin_sneq {E : Env} {h : H} {c : Bool} {t : Nat} {a b : List UInt8} : binV E h c .neq t (.str a) (.str b) = some (.bool (!(a == b))) := rfl
theorem len_str {h : H} {s : List UInt8} : lenB (E g) h 9 (.str s) = some (.int .i64 s.length) := by
 simp only [lenB, ty9]

def nameE (s : List UInt8) : Int := if s = [] then 9 else if 64 < s.length then 21 else 0

theorem rnamed_ok {h : H} {s : List UInt8} : WF (E g) 43 [.str s] h fun v h' => v = .int .i64 (nameE s) ∧ h' = h := by
 refine WF.enter fn43 rfl ?_
 ((repeat refine WC.seq ?_); refine WC.run ?_)
 (try simp only [wk, wl, wx, reduceLT, reduceEqDiff, Nat.reduceBEq, reduceIte])
 ((repeat refine WC.seq ?_); refine WC.run ?_)
 (try simp only [wk, wl, wx, reduceLT, reduceEqDiff, Nat.reduceBEq, reduceIte, bin_seql])
 (repeat refine WC.seq ?_)
 cases s with
 | nil =>
  refine WC.cond (b := true) (by (try simp only [wk, wl, wx, reduceLT, reduceEqDiff, Nat.reduceBEq, reduceIte]); (try simp); (try omega)) ?_
  ((repeat refine WC.seq ?_); refine WC.run ?_)
  (try simp only [wk, wl, wx, reduceLT, reduceEqDiff, Nat.reduceBEq, reduceIte])
  refine WC.ret ?_
  (try simp only [wk, wl, wx, reduceLT, reduceEqDiff, Nat.reduceBEq, reduceIte])
  exact ⟨rfl, by trivial⟩
 | cons c r =>
  refine WC.cond (b := false) (by (try simp only [wk, wl, wx, reduceLT, reduceEqDiff, Nat.reduceBEq, reduceIte]); (try simp); (try omega)) (WC.skip ?_)
  (try simp only [wk, wl, wx, reduceLT, reduceEqDiff, Nat.reduceBEq, reduceIte])
  ((repeat refine WC.seq ?_); refine WC.run ?_)
  (try simp only [wk, wl, wx, reduceLT, reduceEqDiff, Nat.reduceBEq, reduceIte, len_str])
  (repeat refine WC.seq ?_)
  by_cases hl : 64 < r.length + 1
  ·refine WC.cond (b := true) (by (try simp only [wk, wl, wx, reduceLT, reduceEqDiff, Nat.reduceBEq, reduceIte]); (try simp); (try omega)) ?_
   ((repeat refine WC.seq ?_); refine WC.run ?_)
   (try simp only [wk, wl, wx, reduceLT, reduceEqDiff, Nat.reduceBEq, reduceIte])
   refine WC.ret ?_
   (try simp only [wk, wl, wx, reduceLT, reduceEqDiff, Nat.reduceBEq, reduceIte])
   exact ⟨by rw [nameE, if_neg (by simp), if_pos (by simpa using hl)], by trivial⟩
  ·refine WC.cond (b := false) (by (try simp only [wk, wl, wx, reduceLT, reduceEqDiff, Nat.reduceBEq, reduceIte]); (try simp); (try omega)) (WC.skip ?_)
   (try simp only [wk, wl, wx, reduceLT, reduceEqDiff, Nat.reduceBEq, reduceIte])
   ((repeat refine WC.seq ?_); refine WC.run ?_)
   (try simp only [wk, wl, wx, reduceLT, reduceEqDiff, Nat.reduceBEq, reduceIte])
   refine WC.ret ?_
   (try simp only [wk, wl, wx, reduceLT, reduceEqDiff, Nat.reduceBEq, reduceIte])
   exact ⟨by rw [nameE, if_neg (by simp), if_neg (by simpa using hl)], by trivial⟩
end Go.Proofs.OP
