/- Images, read out of the world. -/
import Derived.Test.YtloblhhnlaaajaaGreatDoorW15
import Derived.Test.YtloblhhnlaaajaaGreatDoorW25
import Derived.Test.YtloblhhnlaaajaaGreatDoorW39
import Derived.Test.YtloblhhnlaaajaaGreatDoorCards
import Derived.Test.YtloblhhnlaaajaaGreatDoorTie
import Derived.Deep.DeepLaidRun
import Derived.Lib.LaidTab
set_option linter.unusedVariables false
set_option linter.unusedSimpArgs false
set_option linter.defProp false
namespace Go.Proofs.OP
open Go Go.Ev Go.RowKit Go.ChangeShapes Go.WideShapes Go.ChangeAt
open Go.Proofs
open Nat (reduceLT reduceEqDiff)

theorem cells47 : Tryz.prog.cellsOf 47 = 1 := by kernel_rfl
theorem cells48 : Tryz.prog.cellsOf 48 = 1 := by kernel_rfl
theorem cells50 : Tryz.prog.cellsOf 50 = 7 := by kernel_rfl
theorem cells134 : Tryz.prog.cellsOf 134 = 2 := by kernel_rfl
theorem cells136 : Tryz.prog.cellsOf 136 = 3 := by kernel_rfl
theorem bytes134 : Tryz.prog.bytesOf 134 = 24 := by kernel_rfl
theorem bytes136 : Tryz.prog.bytesOf 136 = 32 := by kernel_rfl
theorem list2 {α : Type} {l : List α} (h : l.length = 2) : ∃ a b, l = [a, b] := by
  match l, h with
  | [a, b], _ => exact ⟨a, b, rfl⟩
theorem list3 {α : Type} {l : List α} (h : l.length = 3) : ∃ a b c, l = [a, b, c] := by
  match l, h with
  | [a, b, c], _ => exact ⟨a, b, c, rfl⟩
section
variable {H : Type} {enc : TypeId × Value → H} {W : World} {base : Nat} {sp : Nat → Bool} {held : Bool}

theorem exp_in {n : Nat} {cs : List Value} {y : DataW H × List MemPlace} (h : DataW.trod enc Tryz.prog W base sp held n 134 cs = some y) (_ : Wts Tryz.prog 134 y.1) :
    ∃ q : ExpD, True ∧ (expV q).length = 2 ∧ ∀ (j : Nat) c, cs[j]? = some c → ∃ v, (expV q)[j]? = some v ∧ AbsC c v := by
  obtain ⟨xs, m, rfl, rfl, hl, hn, hi⟩ := DataW.trod_struct Tryz.underlying134 h
  rw [cells134] at hl
  obtain ⟨c0, c1, rfl⟩ := list2 hl
  obtain ⟨x0, x1, rfl⟩ := list2 hn
  have i0 := fld hi 0 9 0 rfl rfl rfl cells9
  have i1 := fld hi 1 2 1 rfl rfl rfl cells2
  obtain ⟨nm, e0, _, _⟩ := DataW.trod_string Tryz.underlying9 (show DataW.trod enc Tryz.prog W base sp held m 9 [c0] = some x0 from i0)
  obtain ⟨a, e1, _, ha⟩ := DataW.trod_int Tryz.underlying2 (show DataW.trod enc Tryz.prog W base sp held m 2 [c1] = some x1 from i1)
  injection e0 with e0
  injection e1 with e1
  subst e0 e1
  refine ⟨⟨nm.data.toList, a⟩, trivial, rfl, fun j c hj => ?_⟩
  match j, hj with
  | 0, hj => injection hj with hj; subst hj; exact ⟨_, rfl, AbsC.str⟩
  | 1, hj => injection hj with hj; subst hj; exact ⟨_, rfl, AbsC.int⟩
  | j + 2, hj => simp at hj
theorem slot_in {n : Nat} {cs : List Value} {y : DataW H × List MemPlace} (h : DataW.trod enc Tryz.prog W base sp held n 136 cs = some y) (_ : Wts Tryz.prog 136 y.1) :
    ∃ q : SlotD, True ∧ (slotV q).length = 3 ∧ ∀ (j : Nat) c, cs[j]? = some c → ∃ v, (slotV q)[j]? = some v ∧ AbsC c v := by
  obtain ⟨xs, m, rfl, rfl, hl, hn, hi⟩ := DataW.trod_struct Tryz.underlying136 h
  rw [cells136] at hl
  obtain ⟨c0, c1, c2, rfl⟩ := list3 hl
  obtain ⟨x0, x1, x2, rfl⟩ := list3 hn
  have i0 := fld hi 0 9 0 rfl rfl rfl cells9
  have i1 := fld hi 1 2 1 rfl rfl rfl cells2
  have i2 := fld hi 2 2 2 rfl rfl rfl cells2
  obtain ⟨nm, e0, _, _⟩ := DataW.trod_string Tryz.underlying9 (show DataW.trod enc Tryz.prog W base sp held m 9 [c0] = some x0 from i0)
  obtain ⟨a, e1, _, ha⟩ := DataW.trod_int Tryz.underlying2 (show DataW.trod enc Tryz.prog W base sp held m 2 [c1] = some x1 from i1)
  obtain ⟨b, e2, _, hb⟩ := DataW.trod_int Tryz.underlying2 (show DataW.trod enc Tryz.prog W base sp held m 2 [c2] = some x2 from i2)
  injection e0 with e0
  injection e1 with e1
  injection e2 with e2
  subst e0 e1 e2
  refine ⟨⟨nm.data.toList, a, b⟩, trivial, rfl, fun j c hj => ?_⟩
  match j, hj with
  | 0, hj => injection hj with hj; subst hj; exact ⟨_, rfl, AbsC.str⟩
  | 1, hj => injection hj with hj; subst hj; exact ⟨_, rfl, AbsC.int⟩
  | 2, hj => injection hj with hj; subst hj; exact ⟨_, rfl, AbsC.int⟩
  | j + 3, hj => simp at hj
theorem img_in {n : Nat} {cs : List Value} {y : DataW H × List MemPlace} (h : DataW.trod enc Tryz.prog W base sp held n 50 cs = some y) (hw : Wts Tryz.prog 50 y.1) :
    ∃ (o : ImgD) (c : Ic), RoomI o ∧ (∀ ρ μ, concL ρ μ (c.cells o) = some cs) ∧ ∀ hp K, Im (gW W) hp K c o := by
  obtain ⟨xs, m, rfl, rfl, hl, hn, hi⟩ := DataW.trod_struct Tryz.underlying50 h
  rw [cells50] at hl
  obtain ⟨c0, c1, c2, c3, c4, c5, c6, rfl⟩ := list7 hl
  obtain ⟨x0, x1, x2, x3, x4, x5, x6, rfl⟩ := list7 hn
  have i0 := fld hi 0 2 0 rfl rfl rfl cells2
  have i1 := fld hi 1 22 1 rfl rfl rfl cells22
  have i2 := fld hi 2 2 2 rfl rfl rfl cells2
  have i3 := fld hi 3 2 3 rfl rfl rfl cells2
  have i4 := fld hi 4 47 4 rfl rfl rfl cells47
  have i5 := fld hi 5 48 5 rfl rfl rfl cells48
  have i6 := fld hi 6 25 6 rfl rfl rfl cells25
  obtain ⟨b0, e0, _, _⟩ := DataW.trod_int Tryz.underlying2 (show DataW.trod enc Tryz.prog W base sp held m 2 [c0] = some x0 from i0)
  obtain ⟨c1', cv, cd, e1, hcv, _, hcs, hco⟩ := bytesW (E := E (gW W)) E_globs Tryz.underlying22 Tryz.underlying5 cells5 (show DataW.trod enc Tryz.prog W base sp held m 22 [c1] = some x1 from i1) (wts_field hw Tryz.underlying50 (j := 1) rfl rfl)
  obtain ⟨b2, e2, _, _⟩ := DataW.trod_int Tryz.underlying2 (show DataW.trod enc Tryz.prog W base sp held m 2 [c2] = some x2 from i2)
  obtain ⟨b3, e3, _, _⟩ := DataW.trod_int Tryz.underlying2 (show DataW.trod enc Tryz.prog W base sp held m 2 [c3] = some x3 from i3)
  obtain ⟨c4', sv, S, e4, hsv, hS, hsl, hss, hso⟩ := sliceW (α := ExpD) (f := expV) (Pr := fun _ => True) (E := E (gW W)) E_globs Tryz.underlying47 cells134 (by decide) (fun n cs' y hy hw => exp_in hy hw) (show DataW.trod enc Tryz.prog W base sp held m 47 [c4] = some x4 from i4) (wts_field hw Tryz.underlying50 (j := 4) rfl rfl)
  obtain ⟨c5', rv, R, e5, hrv, hR, hrl, hrs, hro⟩ := sliceW (α := SlotD) (f := slotV) (Pr := fun _ => True) (E := E (gW W)) E_globs Tryz.underlying48 cells136 (by decide) (fun n cs' y hy hw => slot_in hy hw) (show DataW.trod enc Tryz.prog W base sp held m 48 [c5] = some x5 from i5) (wts_field hw Tryz.underlying50 (j := 5) rfl rfl)
  obtain ⟨c6', nv, N, e6, hnv, _, hnl, hns, hno⟩ := sliceW (α := List UInt8) (f := fun s => [V.str s]) (Pr := fun _ => True) (E := E (gW W)) E_globs Tryz.underlying25 cells9 (by decide) (fun n cs' y hy hw => str_in hy hw) (show DataW.trod enc Tryz.prog W base sp held m 25 [c6] = some x6 from i6) (wts_field hw Tryz.underlying50 (j := 6) rfl rfl)
  injection e0 with e0
  injection e1 with e1
  injection e2 with e2
  injection e3 with e3
  injection e4 with e4
  injection e5 with e5
  injection e6 with e6
  subst e0 e1 e2 e3 e4 e5 e6
  rw [bytes134, reach_eq] at hsl
  rw [bytes136, reach_eq] at hrl
  rw [bytes9, reach_eq] at hnl
  refine ⟨⟨b0, cd, b2, b3, S, R, N⟩, ⟨cv, sv, rv, nv⟩, ⟨?_, ?_, ?_⟩, fun ρ μ => ?_, fun hp K => ⟨hcs hp, hss hp, hrs hp, ?_, ?_, ?_, ?_, ?_⟩⟩
  · show S.length < _; omega
  · show R.length < _; omega
  · show N.length < _; omega
  · exact concL_mk rfl (concL_mk (hcv.conc ρ μ) (concL_mk rfl (concL_mk rfl (concL_mk (hsv.conc ρ μ) (concL_mk (hrv.conc ρ μ) (concL_mk (hnv.conc ρ μ) rfl))))))
  · have := hns hp
    rwa [← List.map_eq_flatMap] at this
  · exact fun b o n k e => absurd e (hco b o n k)
  · exact fun b o n k e => absurd e (hso b o n k)
  · exact fun b o n k e => absurd e (hro b o n k)
  · exact fun b o n k e => absurd e (hno b o n k)
end
end Go.Proofs.OP

namespace Go.Proofs.OP
open Go Go.Ev Go.RowKit Go.ChangeShapes Go.WideShapes Go.ChangeAt
open Go.Proofs YtloblhhnlaaajaaGreatDoor

theorem gVals : Tryz.prog.globalNamed "orpiment/object.values" = some 1 := by kernel_rfl
theorem gValsType : (Tryz.prog.globals[1]?).map (·.type) = some 219 := by kernel_rfl
theorem gMags : Tryz.prog.globalNamed "orpiment/object.magics" = some 0 := by kernel_rfl
theorem gMagsType : (Tryz.prog.globals[0]?).map (·.type) = some 179 := by kernel_rfl
theorem var_cells {W : World} {n : String} {g : Nat} {cs : Array Value} (hg : Tryz.prog.globalNamed n = some g) (hv : W.var? Tryz.prog n = some cs) : ∃ arr e fz, W.heap[g]? = some (.cells arr e fz) ∧ arr = cs := by
  simp only [World.var?, hg, Option.bind_some] at hv
  split at hv
  · rename_i arr e fz hb
    injection hv with hv
    exact ⟨arr, e, fz, hb, hv⟩
  · cases hv
theorem laid_gs {W : World} (h : laidMetH Tryz.prog [("orpiment/object.magics", Rows.laid_orpiment_object_magics), ("orpiment/object.values", Rows.laid_orpiment_object_values)] W) : (gW W).get 1 = some flagsV ∧ (gW W).get 0 = some magG := by
  obtain ⟨ps, ⟨g1, t1, cs1, fuel1, p1, q1, hg1, ht1, hv1, hd1, ⟨g2, t2, cs2, fuel2, p2, q2, hg2, ht2, hv2, hd2, _, _⟩, _⟩, _⟩ := (show laidMet Tryz.prog [("orpiment/object.magics", Rows.laid_orpiment_object_magics), ("orpiment/object.values", Rows.laid_orpiment_object_values)] W from h)
  obtain rfl := Option.some.inj (gMags.symm.trans hg1)
  obtain rfl := Option.some.inj (gMagsType.symm.trans ht1)
  obtain rfl := Option.some.inj (gVals.symm.trans hg2)
  obtain rfl := Option.some.inj (gValsType.symm.trans ht2)
  have c1 := magics_cells hd1
  have c2 := values_cells hd2
  obtain ⟨a1, e1, z1, b1, r1⟩ := var_cells gMags hv1
  obtain ⟨a2, e2, z2, b2, r2⟩ := var_cells gVals hv2
  constructor
  · refine gW_part b2 (by rw [r2, c2]; rfl) (fun k v hv => ?_)
    rw [r2, c2] at hv
    simp only [flags, List.mem_cons, List.not_mem_nil, or_false] at hv
    rcases hv with rfl | rfl | rfl | rfl | rfl | rfl <;> rfl
  · refine gW_part b1 (by rw [r1, c1]; rfl) (fun k v hv => ?_)
    rw [r1, c1] at hv
    simp only [mags, List.mem_cons, List.not_mem_nil, or_false] at hv
    rcases hv with rfl | rfl | rfl | rfl | rfl | rfl | rfl | rfl <;> rfl
def setc (vs : List Value) : Obj → Obj
  | .cells _ t frozen => .cells vs.toArray t frozen
  | o => o
noncomputable def laidWorld (os : Os) : World :=
  { World.holding Tryz.prog os ⟨#[], #[], []⟩ with heap := ((World.holding Tryz.prog os ⟨#[], #[], []⟩).heap.modify 0 (setc mags)).modify 1 (setc flags) }
end Go.Proofs.OP
