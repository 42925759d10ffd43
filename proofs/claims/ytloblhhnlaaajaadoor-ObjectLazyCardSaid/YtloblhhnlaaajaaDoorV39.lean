/- Walks: the law of programs. Printed by genS17.py. -/
import Derived.Test.YtloblhhnlaaajaaDoorV15
import Derived.Test.YtloblhhnlaaajaaDoorV38
import Derived.Test.YtloblhhnlaaajaaDoorV24
import Derived.Test.YtloblhhnlaaajaaDoorV17
import Derived.Test.YtloblhhnlaaajaaDoorV27
set_option linter.unusedVariables false
set_option linter.unusedSimpArgs false
set_option linter.defProp false
set_option linter.unusedSimpArgs false
namespace Go.Proofs.OP
open Go Go.Ev
open Go.Proofs
open Nat (reduceLT reduceEqDiff)
variable {g : T (List V)}

structure UseD where
 d : Int
 n : Int
 nm : List UInt8
def useV (u : UseD) : List V := [.int .u8 u.d, i64 u.n, .str u.nm]
theorem ldP_good {x : ImgD} {libs xs : List ImgD} {N : List (List UInt8)} (h : (ldP x libs N).1 = some xs) : Good xs ∧ xs.length ≤ 51 := by
 unfold ldP at h
 split at h
 ·cases h
 ·rename_i hg
  obtain ⟨h50, -, smx, gl, -⟩ := givenF_good (Decidable.not_not.1 hg)
  split at h
  ·cases h
  ·injection h with h
   have i := loadF_inv (names := N) gl (f := 60) (i := 0) (linv0 (libs := libs) smx)
   subst h
   exact ⟨i.good, by have := i.bound; show (loadF N libs 60 0 ([-1], [x])).1.2.length ≤ 51; omega⟩
theorem eqT_i30 {n : Nat} {a b : Int} : eqT (E g) (n + 1) 33 (.int .i64 a) (.int .i64 b) = some (decide (a = b)) := by
 simp only [eqT, ty33, scalarEq, if_true]
theorem neq73 {h : H} {c : Bool} {a : Int × Int} : binV (E g) h c .neq 35 (.agg (faultV a)) (.agg (faultV a)) = some (.bool false) := by
 have : eqV (E g) h 35 (.agg (faultV a)) (.agg (faultV a)) = some true := by
  simp only [eqV, ty35, E_eqs, show es.contains 35 = true from rfl, cond_true]
  simp only [eqFlds, partV, ty3, ty33, TI.agg, cond_false, faultV, nth, i64, eqT_i3, eqT_i30, show (("At" : String) == "_") = false from rfl, show (("Code" : String) == "_") = false from rfl, decide_true]
 simp only [binV, this, Option.map_some, Bool.not_true]
end Go.Proofs.OP

namespace Go.Proofs.OP
open Go Go.Ev Go.RowKit Go.ChangeShapes Go.WideShapes Go.ChangeAt
open Go.Proofs
open Nat (reduceLT reduceEqDiff)

theorem cells83 : Tryd.prog.cellsOf 83 = 1 := by kernel_rfl
theorem cells85 : Tryd.prog.cellsOf 85 = 9 := by kernel_rfl
theorem cells3s : Tryd.prog.cellsOf 3 = 1 := by kernel_rfl
theorem cells92 : Tryd.prog.cellsOf 92 = 3 := by kernel_rfl
theorem bytes60 : Tryd.prog.bytesOf 60 = 120 := by kernel_rfl
theorem bytes92 : Tryd.prog.bytesOf 92 = 32 := by kernel_rfl
theorem list9 {α : Type} {l : List α} (h : l.length = 9) : ∃ a b c d e f g i j, l = [a, b, c, d, e, f, g, i, j] := by
 match l, h with
 | [a, b, c, d, e, f, g, i, j], _ => exact ⟨a, b, c, d, e, f, g, i, j, rfl⟩
section
variable {H : Type} {enc : TypeId × Value → H} {W : World} {base : Nat} {sp : Nat → Bool} {held : Bool}

theorem use_in {n : Nat} {cs : List Value} {y : DataW H × List MemPlace} (h : DataW.trod enc Tryd.prog W base sp held n 92 cs = some y) (_ : Wts Tryd.prog 92 y.1) :
  ∃ q : UseD, True ∧ (useV q).length = 3 ∧ ∀ (j : Nat) c, cs[j]? = some c → ∃ v, (useV q)[j]? = some v ∧ AbsC c v := by
 obtain ⟨xs, m, rfl, rfl, hl, hn, hi⟩ := DataW.trod_struct Tryd.underlying92 h
 rw [cells92] at hl
 obtain ⟨c0, c1, c2, rfl⟩ := list3 hl
 obtain ⟨x0, x1, x2, rfl⟩ := list3 hn
 have i0 := fld hi 0 5 0 rfl rfl rfl cells5
 have i1 := fld hi 1 3 1 rfl rfl rfl cells3s
 have i2 := fld hi 2 9 2 rfl rfl rfl cells9
 obtain ⟨a, e0, _, ha⟩ := DataW.trod_int Tryd.underlying5 (show DataW.trod enc Tryd.prog W base sp held m 5 [c0] = some x0 from i0)
 obtain ⟨b, e1, _, hb⟩ := DataW.trod_int Tryd.underlying3 (show DataW.trod enc Tryd.prog W base sp held m 3 [c1] = some x1 from i1)
 obtain ⟨nm, e2, _, _⟩ := DataW.trod_string Tryd.underlying9 (show DataW.trod enc Tryd.prog W base sp held m 9 [c2] = some x2 from i2)
 injection e0 with e0
 injection e1 with e1
 injection e2 with e2
 subst e0 e1 e2
 refine ⟨⟨a, b, nm.data.toList⟩, trivial, rfl, fun j c hj => ?_⟩
 match j, hj with
 | 0, hj => injection hj with hj; subst hj; exact ⟨_, rfl, AbsC.int⟩
 | 1, hj => injection hj with hj; subst hj; exact ⟨_, rfl, AbsC.int⟩
 | 2, hj => injection hj with hj; subst hj; exact ⟨_, rfl, AbsC.str⟩
 | j + 3, hj => simp at hj
theorem img_in2 {n : Nat} {cs : List Value} {y : DataW H × List MemPlace} (h : DataW.trod enc Tryd.prog W base sp held n 60 cs = some y) (hw : Wts Tryd.prog 60 y.1) :
  ∃ q : Ic × ImgD, (RoomI q.2 ∧ ∀ hp K, Im (gW W) hp K q.1 q.2) ∧ (q.1.cells q.2).length = 7 ∧ ∀ (j : Nat) c, cs[j]? = some c → ∃ v, (q.1.cells q.2)[j]? = some v ∧ AbsC c v := by
 obtain ⟨xs, m, rfl, rfl, hl, hn, hi⟩ := DataW.trod_struct Tryd.underlying60 h
 rw [cells60] at hl
 obtain ⟨c0, c1, c2, c3, c4, c5, c6, rfl⟩ := list7 hl
 obtain ⟨x0, x1, x2, x3, x4, x5, x6, rfl⟩ := list7 hn
 have i0 := fld hi 0 2 0 rfl rfl rfl cells2
 have i1 := fld hi 1 27 1 rfl rfl rfl cells27
 have i2 := fld hi 2 2 2 rfl rfl rfl cells2
 have i3 := fld hi 3 2 3 rfl rfl rfl cells2
 have i4 := fld hi 4 57 4 rfl rfl rfl cells57
 have i5 := fld hi 5 58 5 rfl rfl rfl cells58
 have i6 := fld hi 6 30 6 rfl rfl rfl cells30
 obtain ⟨b0, e0, _, _⟩ := DataW.trod_int Tryd.underlying2 (show DataW.trod enc Tryd.prog W base sp held m 2 [c0] = some x0 from i0)
 obtain ⟨c1', cv, cd, e1, hcv, _, hcs, hco⟩ := bytesW (E := E (gW W)) E_globs Tryd.underlying27 Tryd.underlying5 cells5 (show DataW.trod enc Tryd.prog W base sp held m 27 [c1] = some x1 from i1) (wts_field hw Tryd.underlying60 (j := 1) rfl rfl)
 obtain ⟨b2, e2, _, _⟩ := DataW.trod_int Tryd.underlying2 (show DataW.trod enc Tryd.prog W base sp held m 2 [c2] = some x2 from i2)
 obtain ⟨b3, e3, _, _⟩ := DataW.trod_int Tryd.underlying2 (show DataW.trod enc Tryd.prog W base sp held m 2 [c3] = some x3 from i3)
 obtain ⟨c4', sv, S, e4, hsv, hS, hsl, hss, hso⟩ := sliceW (α := ExpD) (f := expV) (Pr := fun _ => True) (E := E (gW W)) E_globs Tryd.underlying57 cells135 (by decide) (fun n cs' y hy hw => exp_in hy hw) (show DataW.trod enc Tryd.prog W base sp held m 57 [c4] = some x4 from i4) (wts_field hw Tryd.underlying60 (j := 4) rfl rfl)
 obtain ⟨c5', rv, R, e5, hrv, hR, hrl, hrs, hro⟩ := sliceW (α := SlotD) (f := slotV) (Pr := fun _ => True) (E := E (gW W)) E_globs Tryd.underlying58 cells136 (by decide) (fun n cs' y hy hw => slot_in hy hw) (show DataW.trod enc Tryd.prog W base sp held m 58 [c5] = some x5 from i5) (wts_field hw Tryd.underlying60 (j := 5) rfl rfl)
 obtain ⟨c6', nv, N, e6, hnv, _, hnl, hns, hno⟩ := sliceW (α := List UInt8) (f := fun s => [V.str s]) (Pr := fun _ => True) (E := E (gW W)) E_globs Tryd.underlying30 cells9 (by decide) (fun n cs' y hy hw => str_in hy hw) (show DataW.trod enc Tryd.prog W base sp held m 30 [c6] = some x6 from i6) (wts_field hw Tryd.underlying60 (j := 6) rfl rfl)
 injection e0 with e0
 injection e1 with e1
 injection e2 with e2
 injection e3 with e3
 injection e4 with e4
 injection e5 with e5
 injection e6 with e6
 subst e0 e1 e2 e3 e4 e5 e6
 rw [bytes135, reach_eq] at hsl
 rw [bytes136, reach_eq] at hrl
 rw [bytes9, reach_eq] at hnl
 refine ⟨(⟨cv, sv, rv, nv⟩, ⟨b0, cd, b2, b3, S, R, N⟩), ⟨⟨?_, ?_, ?_⟩, fun hp K => ⟨hcs hp, hss hp, hrs hp, ?_, ?_, ?_, ?_, ?_⟩⟩, rfl, fun j c hj => ?_⟩
 ·show S.length < _; omega
 ·show R.length < _; omega
 ·show N.length < _; omega
 ·have := hns hp
  rwa [← List.map_eq_flatMap] at this
 ·exact fun b o n k e => absurd e (hco b o n k)
 ·exact fun b o n k e => absurd e (hso b o n k)
 ·exact fun b o n k e => absurd e (hro b o n k)
 ·exact fun b o n k e => absurd e (hno b o n k)
 ·match j, hj with
  | 0, hj => injection hj with hj; subst hj; exact ⟨_, rfl, AbsC.int⟩
  | 1, hj => injection hj with hj; subst hj; exact ⟨_, rfl, hcv⟩
  | 2, hj => injection hj with hj; subst hj; exact ⟨_, rfl, AbsC.int⟩
  | 3, hj => injection hj with hj; subst hj; exact ⟨_, rfl, AbsC.int⟩
  | 4, hj => injection hj with hj; subst hj; exact ⟨_, rfl, hsv⟩
  | 5, hj => injection hj with hj; subst hj; exact ⟨_, rfl, hrv⟩
  | 6, hj => injection hj with hj; subst hj; exact ⟨_, rfl, hnv⟩
  | j + 7, hj => simp at hj
def ReadI (W : World) (q : Ic × ImgD) : Prop := RoomI q.2 ∧ ∀ hp K, Im (gW W) hp K q.1 q.2
set_option maxRecDepth 100000 in
theorem ld_in {n : Nat} {cs : List Value} {y : DataW H × List MemPlace} (h : DataW.trod enc Tryd.prog W base sp held n 85 cs = some y) (hw : Wts Tryd.prog 85 y.1) :
  ∃ (c : Ic) (x : ImgD) (ls ns : V) (L : List (Ic × ImgD)) (N : List (List UInt8)), LdR x L N ∧ (∀ ρ μ, concL ρ μ (ldC c x ls ns) = some cs) ∧ ∀ hp K, LdM (gW W) hp K c ls ns x L N := by
 obtain ⟨xs, m, rfl, rfl, hl, hn, hi⟩ := DataW.trod_struct Tryd.underlying85 h
 rw [cells85] at hl
 obtain ⟨c0, c1, c2, c3, c4, c5, c6, c7, c8, rfl⟩ := list9 hl
 obtain ⟨x0, x1, x2, rfl⟩ := list3 hn
 have i0 := fld hi 0 60 0 rfl rfl rfl cells60
 have i1 := fld hi 1 83 7 rfl rfl rfl cells83
 have i2 := fld hi 2 30 8 rfl rfl rfl cells30
 obtain ⟨⟨c, x⟩, ⟨room, hob⟩, hl7, hcell⟩ := img_in2 (show DataW.trod enc Tryd.prog W base sp held m 60 [c0, c1, c2, c3, c4, c5, c6] = some x0 from i0) (wts_field hw Tryd.underlying85 (j := 0) rfl rfl)
 obtain ⟨c7', lv, L, e1, hlv, hL, hll, hls, hlo⟩ := sliceW (α := Ic × ImgD) (f := fun p => p.1.cells p.2) (Pr := ReadI W) (E := E (gW W)) E_globs Tryd.underlying83 cells60 (by decide) (fun n cs' y hy hw => img_in2 hy hw) (show DataW.trod enc Tryd.prog W base sp held m 83 [c7] = some x1 from i1) (wts_field hw Tryd.underlying85 (j := 1) rfl rfl)
 obtain ⟨c8', nv, N, e2, hnv, _, hnl, hns, hno⟩ := sliceW (α := List UInt8) (f := fun s => [V.str s]) (Pr := fun _ => True) (E := E (gW W)) E_globs Tryd.underlying30 cells9 (by decide) (fun n cs' y hy hw => str_in hy hw) (show DataW.trod enc Tryd.prog W base sp held m 30 [c8] = some x2 from i2) (wts_field hw Tryd.underlying85 (j := 2) rfl rfl)
 injection e1 with e1
 injection e2 with e2
 subst e1 e2
 rw [bytes60, reach_eq] at hll
 rw [bytes9, reach_eq] at hnl
 refine ⟨c, x, lv, nv, L, N, ⟨room, fun p hp => (hL p hp).1, by omega, by omega⟩, fun ρ μ => ?_, fun hp K => ⟨hob hp K, ⟨hls hp, fun b o n k e => absurd e (hlo b o n k), fun p hq => (hL p hq).2 hp K⟩, ?_, fun b o n k e => absurd e (hno b o n k)⟩⟩
 ·obtain ⟨v0, w0, z0⟩ := hcell 0 c0 rfl
  obtain ⟨v1, w1, z1⟩ := hcell 1 c1 rfl
  obtain ⟨v2, w2, z2⟩ := hcell 2 c2 rfl
  obtain ⟨v3, w3, z3⟩ := hcell 3 c3 rfl
  obtain ⟨v4, w4, z4⟩ := hcell 4 c4 rfl
  obtain ⟨v5, w5, z5⟩ := hcell 5 c5 rfl
  obtain ⟨v6, w6, z6⟩ := hcell 6 c6 rfl
  injection w0 with w0
  injection w1 with w1
  injection w2 with w2
  injection w3 with w3
  injection w4 with w4
  injection w5 with w5
  injection w6 with w6
  subst w0 w1 w2 w3 w4 w5 w6
  exact concL_mk (z0.conc ρ μ) (concL_mk (z1.conc ρ μ) (concL_mk (z2.conc ρ μ) (concL_mk (z3.conc ρ μ) (concL_mk (z4.conc ρ μ) (concL_mk (z5.conc ρ μ) (concL_mk (z6.conc ρ μ) (concL_mk (hlv.conc ρ μ) (concL_mk (hnv.conc ρ μ) rfl))))))))
 ·have := hns hp
  rwa [← List.map_eq_flatMap] at this
end
end Go.Proofs.OP
