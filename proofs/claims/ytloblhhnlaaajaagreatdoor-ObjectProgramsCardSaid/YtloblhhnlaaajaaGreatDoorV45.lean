/- Loadings and uses, read out of the world. -/
import Derived.Test.YtloblhhnlaaajaaGreatDoorV15
import Derived.Test.YtloblhhnlaaajaaGreatDoorV27
import Derived.Test.YtloblhhnlaaajaaGreatDoorV44
import Derived.Test.YtloblhhnlaaajaaGreatDoorV19
import Derived.Test.YtloblhhnlaaajaaGreatDoorCards
import Derived.Test.YtloblhhnlaaajaaGreatDoorTie
import Derived.Deep.DeepLaidRun
import Derived.Lib.LaidTab
set_option linter.unusedVariables false
set_option linter.unusedSimpArgs false
set_option linter.defProp false
namespace Go.Proofs.OP
open Go Go.Ev Go.RowKit Go.ChangeShapes Go.WideShapes Go.ChangeAt
open Go.Proofs
open Nat (reduceLT reduceEqDiff)

theorem cells65 : Tryz.prog.cellsOf 65 = 1 := by kernel_rfl
theorem cells67 : Tryz.prog.cellsOf 67 = 9 := by kernel_rfl
theorem cells3s : Tryz.prog.cellsOf 3 = 1 := by kernel_rfl
theorem cells77 : Tryz.prog.cellsOf 77 = 3 := by kernel_rfl
theorem bytes50 : Tryz.prog.bytesOf 50 = 120 := by kernel_rfl
theorem bytes77 : Tryz.prog.bytesOf 77 = 32 := by kernel_rfl
theorem list9 {α : Type} {l : List α} (h : l.length = 9) : ∃ a b c d e f g i j, l = [a, b, c, d, e, f, g, i, j] := by
 match l, h with
 | [a, b, c, d, e, f, g, i, j], _ => exact ⟨a, b, c, d, e, f, g, i, j, rfl⟩
section
variable {H : Type} {enc : TypeId × Value → H} {W : World} {base : Nat} {sp : Nat → Bool} {held : Bool}

theorem use_in {n : Nat} {cs : List Value} {y : DataW H × List MemPlace} (h : DataW.trod enc Tryz.prog W base sp held n 77 cs = some y) (_ : Wts Tryz.prog 77 y.1) :
  ∃ q : UseD, True ∧ (useV q).length = 3 ∧ ∀ (j : Nat) c, cs[j]? = some c → ∃ v, (useV q)[j]? = some v ∧ AbsC c v := by
 obtain ⟨xs, m, rfl, rfl, hl, hn, hi⟩ := DataW.trod_struct Tryz.underlying77 h
 rw [cells77] at hl
 obtain ⟨c0, c1, c2, rfl⟩ := list3 hl
 obtain ⟨x0, x1, x2, rfl⟩ := list3 hn
 have i0 := fld hi 0 5 0 rfl rfl rfl cells5
 have i1 := fld hi 1 3 1 rfl rfl rfl cells3s
 have i2 := fld hi 2 9 2 rfl rfl rfl cells9
 obtain ⟨a, e0, _, ha⟩ := DataW.trod_int Tryz.underlying5 (show DataW.trod enc Tryz.prog W base sp held m 5 [c0] = some x0 from i0)
 obtain ⟨b, e1, _, hb⟩ := DataW.trod_int Tryz.underlying3 (show DataW.trod enc Tryz.prog W base sp held m 3 [c1] = some x1 from i1)
 obtain ⟨nm, e2, _, _⟩ := DataW.trod_string Tryz.underlying9 (show DataW.trod enc Tryz.prog W base sp held m 9 [c2] = some x2 from i2)
 injection e0 with e0
 injection e1 with e1
 injection e2 with e2
 subst e0 e1 e2
 refine ⟨⟨a, b, nm.data.toList⟩, trivial, rfl, fun j c hj => ?_⟩
 match j, hj with
 | 0, hj => injection hj with hj; subst hj; exact ⟨_, rfl, AbsC.int⟩
 | 1, hj => injection hj with hj; subst hj; exact ⟨_, rfl, AbsC.int⟩
 | 2, hj => injection hj with hj; subst hj; exact ⟨_, rfl, AbsC.str⟩
 | j + 3, hj => simp at hj
theorem img_in2 {n : Nat} {cs : List Value} {y : DataW H × List MemPlace} (h : DataW.trod enc Tryz.prog W base sp held n 50 cs = some y) (hw : Wts Tryz.prog 50 y.1) :
  ∃ q : Ic × ImgD, (RoomI q.2 ∧ ∀ hp K, Im (gW W) hp K q.1 q.2) ∧ (q.1.cells q.2).length = 7 ∧ ∀ (j : Nat) c, cs[j]? = some c → ∃ v, (q.1.cells q.2)[j]? = some v ∧ AbsC c v := by
 obtain ⟨xs, m, rfl, rfl, hl, hn, hi⟩ := DataW.trod_struct Tryz.underlying50 h
 rw [cells50] at hl
 obtain ⟨c0, c1, c2, c3, c4, c5, c6, rfl⟩ := list7 hl
 obtain ⟨x0, x1, x2, x3, x4, x5, x6, rfl⟩ := list7 hn
 have i0 := fld hi 0 2 0 rfl rfl rfl cells2
 have i1 := fld hi 1 22 1 rfl rfl rfl cells22
 have i2 := fld hi 2 2 2 rfl rfl rfl cells2
 have i3 := fld hi 3 2 3 rfl rfl rfl cells2
 have i4 := fld hi 4 47 4 rfl rfl rfl cells47
 have i5 := fld hi 5 48 5 rfl rfl rfl cells48
 have i6 := fld hi 6 25 6 rfl rfl rfl cells25
 obtain ⟨b0, e0, _, _⟩ := DataW.trod_int Tryz.underlying2 (show DataW.trod enc Tryz.prog W base sp held m 2 [c0] = some x0 from i0)
 obtain ⟨c1', cv, cd, e1, hcv, _, hcs, hco⟩ := bytesW (E := E (gW W)) E_globs Tryz.underlying22 Tryz.underlying5 cells5 (show DataW.trod enc Tryz.prog W base sp held m 22 [c1] = some x1 from i1) (wts_field hw Tryz.underlying50 (j := 1) rfl rfl)
 obtain ⟨b2, e2, _, _⟩ := DataW.trod_int Tryz.underlying2 (show DataW.trod enc Tryz.prog W base sp held m 2 [c2] = some x2 from i2)
 obtain ⟨b3, e3, _, _⟩ := DataW.trod_int Tryz.underlying2 (show DataW.trod enc Tryz.prog W base sp held m 2 [c3] = some x3 from i3)
 obtain ⟨c4', sv, S, e4, hsv, hS, hsl, hss, hso⟩ := sliceW (α := ExpD) (f := expV) (Pr := fun _ => True) (E := E (gW W)) E_globs Tryz.underlying47 cells134 (by decide) (fun n cs' y hy hw => exp_in hy hw) (show DataW.trod enc Tryz.prog W base sp held m 47 [c4] = some x4 from i4) (wts_field hw Tryz.underlying50 (j := 4) rfl rfl)
 obtain ⟨c5', rv, R, e5, hrv, hR, hrl, hrs, hro⟩ := sliceW (α := SlotD) (f := slotV) (Pr := fun _ => True) (E := E (gW W)) E_globs Tryz.underlying48 cells136 (by decide) (fun n cs' y hy hw => slot_in hy hw) (show DataW.trod enc Tryz.prog W base sp held m 48 [c5] = some x5 from i5) (wts_field hw Tryz.underlying50 (j := 5) rfl rfl)
 obtain ⟨c6', nv, N, e6, hnv, _, hnl, hns, hno⟩ := sliceW (α := List UInt8) (f := fun s => [V.str s]) (Pr := fun _ => True) (E := E (gW W)) E_globs Tryz.underlying25 cells9 (by decide) (fun n cs' y hy hw => str_in hy hw) (show DataW.trod enc Tryz.prog W base sp held m 25 [c6] = some x6 from i6) (wts_field hw Tryz.underlying50 (j := 6) rfl rfl)
 injection e0 with e0
 injection e1 with e1
 injection e2 with e2
 injection e3 with e3
 injection e4 with e4
 injection e5 with e5
 injection e6 with e6
 subst e0 e1 e2 e3 e4 e5 e6
 rw [bytes134, reach_eq] at hsl
 rw [bytes136, reach_eq] at hrl
 rw [bytes9, reach_eq] at hnl
 refine ⟨(⟨cv, sv, rv, nv⟩, ⟨b0, cd, b2, b3, S, R, N⟩), ⟨⟨?_, ?_, ?_⟩, fun hp K => ⟨hcs hp, hss hp, hrs hp, ?_, ?_, ?_, ?_, ?_⟩⟩, rfl, fun j c hj => ?_⟩
 ·show S.length < _; omega
 ·show R.length < _; omega
 ·show N.length < _; omega
 ·have := hns hp
  rwa [← List.map_eq_flatMap] at this
 ·exact fun b o n k e => absurd e (hco b o n k)
 ·exact fun b o n k e => absurd e (hso b o n k)
 ·exact fun b o n k e => absurd e (hro b o n k)
 ·exact fun b o n k e => absurd e (hno b o n k)
 ·match j, hj with
  | 0, hj => injection hj with hj; subst hj; exact ⟨_, rfl, AbsC.int⟩
  | 1, hj => injection hj with hj; subst hj; exact ⟨_, rfl, hcv⟩
  | 2, hj => injection hj with hj; subst hj; exact ⟨_, rfl, AbsC.int⟩
  | 3, hj => injection hj with hj; subst hj; exact ⟨_, rfl, AbsC.int⟩
  | 4, hj => injection hj with hj; subst hj; exact ⟨_, rfl, hsv⟩
  | 5, hj => injection hj with hj; subst hj; exact ⟨_, rfl, hrv⟩
  | 6, hj => injection hj with hj; subst hj; exact ⟨_, rfl, hnv⟩
  | j + 7, hj => simp at hj
def ReadI (W : World) (q : Ic × ImgD) : Prop := RoomI q.2 ∧ ∀ hp K, Im (gW W) hp K q.1 q.2
set_option maxRecDepth 100000 in
theorem ld_in {n : Nat} {cs : List Value} {y : DataW H × List MemPlace} (h : DataW.trod enc Tryz.prog W base sp held n 67 cs = some y) (hw : Wts Tryz.prog 67 y.1) :
  ∃ (c : Ic) (x : ImgD) (ls ns : V) (L : List (Ic × ImgD)) (N : List (List UInt8)), LdR x L N ∧ (∀ ρ μ, concL ρ μ (ldC c x ls ns) = some cs) ∧ ∀ hp K, LdM (gW W) hp K c ls ns x L N := by
 obtain ⟨xs, m, rfl, rfl, hl, hn, hi⟩ := DataW.trod_struct Tryz.underlying67 h
 rw [cells67] at hl
 obtain ⟨c0, c1, c2, c3, c4, c5, c6, c7, c8, rfl⟩ := list9 hl
 obtain ⟨x0, x1, x2, rfl⟩ := list3 hn
 have i0 := fld hi 0 50 0 rfl rfl rfl cells50
 have i1 := fld hi 1 65 7 rfl rfl rfl cells65
 have i2 := fld hi 2 25 8 rfl rfl rfl cells25
 obtain ⟨⟨c, x⟩, ⟨room, hob⟩, hl7, hcell⟩ := img_in2 (show DataW.trod enc Tryz.prog W base sp held m 50 [c0, c1, c2, c3, c4, c5, c6] = some x0 from i0) (wts_field hw Tryz.underlying67 (j := 0) rfl rfl)
 obtain ⟨c7', lv, L, e1, hlv, hL, hll, hls, hlo⟩ := sliceW (α := Ic × ImgD) (f := fun p => p.1.cells p.2) (Pr := ReadI W) (E := E (gW W)) E_globs Tryz.underlying65 cells50 (by decide) (fun n cs' y hy hw => img_in2 hy hw) (show DataW.trod enc Tryz.prog W base sp held m 65 [c7] = some x1 from i1) (wts_field hw Tryz.underlying67 (j := 1) rfl rfl)
 obtain ⟨c8', nv, N, e2, hnv, _, hnl, hns, hno⟩ := sliceW (α := List UInt8) (f := fun s => [V.str s]) (Pr := fun _ => True) (E := E (gW W)) E_globs Tryz.underlying25 cells9 (by decide) (fun n cs' y hy hw => str_in hy hw) (show DataW.trod enc Tryz.prog W base sp held m 25 [c8] = some x2 from i2) (wts_field hw Tryz.underlying67 (j := 2) rfl rfl)
 injection e1 with e1
 injection e2 with e2
 subst e1 e2
 rw [bytes50, reach_eq] at hll
 rw [bytes9, reach_eq] at hnl
 refine ⟨c, x, lv, nv, L, N, ⟨room, fun p hp => (hL p hp).1, by omega, by omega⟩, fun ρ μ => ?_, fun hp K => ⟨hob hp K, ⟨hls hp, fun b o n k e => absurd e (hlo b o n k), fun p hq => (hL p hq).2 hp K⟩, ?_, fun b o n k e => absurd e (hno b o n k)⟩⟩
 ·obtain ⟨v0, w0, z0⟩ := hcell 0 c0 rfl
  obtain ⟨v1, w1, z1⟩ := hcell 1 c1 rfl
  obtain ⟨v2, w2, z2⟩ := hcell 2 c2 rfl
  obtain ⟨v3, w3, z3⟩ := hcell 3 c3 rfl
  obtain ⟨v4, w4, z4⟩ := hcell 4 c4 rfl
  obtain ⟨v5, w5, z5⟩ := hcell 5 c5 rfl
  obtain ⟨v6, w6, z6⟩ := hcell 6 c6 rfl
  injection w0 with w0
  injection w1 with w1
  injection w2 with w2
  injection w3 with w3
  injection w4 with w4
  injection w5 with w5
  injection w6 with w6
  subst w0 w1 w2 w3 w4 w5 w6
  exact concL_mk (z0.conc ρ μ) (concL_mk (z1.conc ρ μ) (concL_mk (z2.conc ρ μ) (concL_mk (z3.conc ρ μ) (concL_mk (z4.conc ρ μ) (concL_mk (z5.conc ρ μ) (concL_mk (z6.conc ρ μ) (concL_mk (hlv.conc ρ μ) (concL_mk (hnv.conc ρ μ) rfl))))))))
 ·have := hns hp
  rwa [← List.map_eq_flatMap] at this
end
end Go.Proofs.OP

namespace Go.Proofs.OP
open Go Go.Ev Go.RowKit Go.ChangeShapes Go.WideShapes Go.ChangeAt
open Go.Proofs YtloblhhnlaaajaaGreatDoor

theorem gVals : Tryz.prog.globalNamed "orpiment/object.values" = some 1 := by kernel_rfl
theorem gValsType : (Tryz.prog.globals[1]?).map (·.type) = some 219 := by kernel_rfl
theorem var_cells {W : World} {n : String} {g : Nat} {cs : Array Value} (hg : Tryz.prog.globalNamed n = some g) (hv : W.var? Tryz.prog n = some cs) : ∃ arr e fz, W.heap[g]? = some (.cells arr e fz) ∧ arr = cs := by
 simp only [World.var?, hg, Option.bind_some] at hv
 split at hv
 ·rename_i arr e fz hb
  injection hv with hv
  exact ⟨arr, e, fz, hb, hv⟩
 ·cases hv
def setc (vs : List Value) : Obj → Obj
 | .cells _ t frozen => .cells vs.toArray t frozen
 | o => o
noncomputable def laidWorld (os : Os) : World :=
 { World.holding Tryz.prog os ⟨#[], #[], []⟩ with heap := ((World.holding Tryz.prog os ⟨#[], #[], []⟩).heap.modify 0 (setc mags)).modify 1 (setc flags) }
end Go.Proofs.OP
