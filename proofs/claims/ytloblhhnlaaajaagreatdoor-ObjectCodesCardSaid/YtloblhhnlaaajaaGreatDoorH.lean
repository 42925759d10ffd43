/- Objects and variables, read out of the world. -/
import Derived.Test.YtloblhhnlaaajaaGreatDoorB13
import Derived.Test.YtloblhhnlaaajaaGreatDoorD6
import Derived.Test.YtloblhhnlaaajaaGreatDoorG
import Derived.Test.YtloblhhnlaaajaaGreatDoorB9
import Derived.Test.YtloblhhnlaaajaaGreatDoorChecked
import Derived.Test.YtloblhhnlaaajaaGreatDoorRows
import Derived.WalkKit
import Derived.ProofKit
import Derived.OpenShut
import Derived.ChangeMaps5
import Derived.Deep.DeepHandedRow
set_option linter.unusedVariables false
set_option linter.unusedSimpArgs false
set_option linter.defProp false
namespace Go.Proofs.OP
open Go Go.Ev Go.RowKit Go.ChangeShapes Go.WideShapes Go.ChangeAt
open Go.Proofs
open Nat (reduceLT reduceEqDiff)

theorem own : ownKnob Tryz.prog.godebug = none := by kernel_rfl
theorem laidOut : laidOutB Tryz.prog = true := by kernel_rfl
theorem cells2 : Tryz.prog.cellsOf 2 = 1 := by kernel_rfl
theorem cells3 : Tryz.prog.cellsOf 3 = 1 := by kernel_rfl
theorem cells4 : Tryz.prog.cellsOf 4 = 1 := by kernel_rfl
theorem cells5 : Tryz.prog.cellsOf 5 = 1 := by kernel_rfl
theorem cells9 : Tryz.prog.cellsOf 9 = 1 := by kernel_rfl
theorem cells22 : Tryz.prog.cellsOf 22 = 1 := by kernel_rfl
theorem cells25 : Tryz.prog.cellsOf 25 = 1 := by kernel_rfl
theorem cells23 : Tryz.prog.cellsOf 23 = 1 := by kernel_rfl
theorem cells24 : Tryz.prog.cellsOf 24 = 1 := by kernel_rfl
theorem cells27 : Tryz.prog.cellsOf 27 = 7 := by kernel_rfl
theorem cells91 : Tryz.prog.cellsOf 91 = 5 := by kernel_rfl
theorem cells89 : Tryz.prog.cellsOf 89 = 5 := by kernel_rfl
theorem cells218 : Tryz.prog.cellsOf 218 = 2 := by kernel_rfl
theorem cells219 : Tryz.prog.cellsOf 219 = 6 := by kernel_rfl
theorem cells178 : Tryz.prog.cellsOf 178 = 4 := by kernel_rfl
theorem cells179 : Tryz.prog.cellsOf 179 = 8 := by kernel_rfl
theorem bytes9 : Tryz.prog.bytesOf 9 = 16 := by kernel_rfl
theorem bytes91 : Tryz.prog.bytesOf 91 = 48 := by kernel_rfl
theorem bytes89 : Tryz.prog.bytesOf 89 = 40 := by kernel_rfl

theorem list5 {α : Type} {l : List α} (h : l.length = 5) : ∃ a b c d e, l = [a, b, c, d, e] := by
  match l, h with
  | [a, b, c, d, e], _ => exact ⟨a, b, c, d, e, rfl⟩
theorem list7 {α : Type} {l : List α} (h : l.length = 7) : ∃ a b c d e f i, l = [a, b, c, d, e, f, i] := by
  match l, h with
  | [a, b, c, d, e, f, i], _ => exact ⟨a, b, c, d, e, f, i, rfl⟩

section
variable {H : Type} {enc : TypeId × Value → H} {W : World} {base : Nat} {sp : Nat → Bool} {held : Bool}

theorem sym_in {n : Nat} {cs : List Value} {y : DataW H × List MemPlace} (h : DataW.trod enc Tryz.prog W base sp held n 89 cs = some y) (_ : Wts Tryz.prog 89 y.1) :
    ∃ q : SymD, (In64 q.sec ∧ In64 q.off) ∧ (symV q).length = 5 ∧ ∀ (j : Nat) c, cs[j]? = some c → ∃ v, (symV q)[j]? = some v ∧ AbsC c v := by
  obtain ⟨xs, m, rfl, rfl, hl, hn, hi⟩ := DataW.trod_struct Tryz.underlying89 h
  rw [cells89] at hl
  obtain ⟨c0, c1, c2, c3, c4, rfl⟩ := list5 hl
  obtain ⟨x0, x1, x2, x3, x4, rfl⟩ := list5 hn
  have i0 := fld hi 0 9 0 rfl rfl rfl cells9
  have i1 := fld hi 1 3 1 rfl rfl rfl cells3
  have i2 := fld hi 2 2 2 rfl rfl rfl cells2
  have i3 := fld hi 3 4 3 rfl rfl rfl cells4
  have i4 := fld hi 4 4 4 rfl rfl rfl cells4
  obtain ⟨nm, e0, _, _⟩ := DataW.trod_string Tryz.underlying9 (show DataW.trod enc Tryz.prog W base sp held m 9 [c0] = some x0 from i0)
  obtain ⟨a, e1, _, ha⟩ := DataW.trod_int Tryz.underlying3 (show DataW.trod enc Tryz.prog W base sp held m 3 [c1] = some x1 from i1)
  obtain ⟨b, e2, _, hb⟩ := DataW.trod_int Tryz.underlying2 (show DataW.trod enc Tryz.prog W base sp held m 2 [c2] = some x2 from i2)
  obtain ⟨d, e3, _⟩ := DataW.trod_bool Tryz.underlying4 (show DataW.trod enc Tryz.prog W base sp held m 4 [c3] = some x3 from i3)
  obtain ⟨e, e4, _⟩ := DataW.trod_bool Tryz.underlying4 (show DataW.trod enc Tryz.prog W base sp held m 4 [c4] = some x4 from i4)
  injection e0 with e0
  injection e1 with e1
  injection e2 with e2
  injection e3 with e3
  injection e4 with e4
  subst e0 e1 e2 e3 e4
  refine ⟨⟨nm.data.toList, a, b, d, e⟩, ⟨wf_i64 ha, wf_i64 hb⟩, rfl, fun j c hj => ?_⟩
  match j, hj with
  | 0, hj => injection hj with hj; subst hj; exact ⟨_, rfl, AbsC.str⟩
  | 1, hj => injection hj with hj; subst hj; exact ⟨_, rfl, AbsC.int⟩
  | 2, hj => injection hj with hj; subst hj; exact ⟨_, rfl, AbsC.int⟩
  | 3, hj => injection hj with hj; subst hj; exact ⟨_, rfl, AbsC.bool⟩
  | 4, hj => injection hj with hj; subst hj; exact ⟨_, rfl, AbsC.bool⟩
  | j + 5, hj => simp at hj
theorem rel_in {n : Nat} {cs : List Value} {y : DataW H × List MemPlace} (h : DataW.trod enc Tryz.prog W base sp held n 91 cs = some y) (_ : Wts Tryz.prog 91 y.1) :
    ∃ q : RelD, (In64 q.sec ∧ In64 q.off ∧ In64 q.kind ∧ In64 q.add) ∧ (relV q).length = 5 ∧ ∀ (j : Nat) c, cs[j]? = some c → ∃ v, (relV q)[j]? = some v ∧ AbsC c v := by
  obtain ⟨xs, m, rfl, rfl, hl, hn, hi⟩ := DataW.trod_struct Tryz.underlying91 h
  rw [cells91] at hl
  obtain ⟨c0, c1, c2, c3, c4, rfl⟩ := list5 hl
  obtain ⟨x0, x1, x2, x3, x4, rfl⟩ := list5 hn
  have i0 := fld hi 0 3 0 rfl rfl rfl cells3
  have i1 := fld hi 1 2 1 rfl rfl rfl cells2
  have i2 := fld hi 2 3 2 rfl rfl rfl cells3
  have i3 := fld hi 3 9 3 rfl rfl rfl cells9
  have i4 := fld hi 4 2 4 rfl rfl rfl cells2
  obtain ⟨a, e0, _, ha⟩ := DataW.trod_int Tryz.underlying3 (show DataW.trod enc Tryz.prog W base sp held m 3 [c0] = some x0 from i0)
  obtain ⟨b, e1, _, hb⟩ := DataW.trod_int Tryz.underlying2 (show DataW.trod enc Tryz.prog W base sp held m 2 [c1] = some x1 from i1)
  obtain ⟨d, e2, _, hd⟩ := DataW.trod_int Tryz.underlying3 (show DataW.trod enc Tryz.prog W base sp held m 3 [c2] = some x2 from i2)
  obtain ⟨nm, e3, _, _⟩ := DataW.trod_string Tryz.underlying9 (show DataW.trod enc Tryz.prog W base sp held m 9 [c3] = some x3 from i3)
  obtain ⟨e, e4, _, he⟩ := DataW.trod_int Tryz.underlying2 (show DataW.trod enc Tryz.prog W base sp held m 2 [c4] = some x4 from i4)
  injection e0 with e0
  injection e1 with e1
  injection e2 with e2
  injection e3 with e3
  injection e4 with e4
  subst e0 e1 e2 e3 e4
  refine ⟨⟨a, b, d, nm.data.toList, e⟩, ⟨wf_i64 ha, wf_i64 hb, wf_i64 hd, wf_i64 he⟩, rfl, fun j c hj => ?_⟩
  match j, hj with
  | 0, hj => injection hj with hj; subst hj; exact ⟨_, rfl, AbsC.int⟩
  | 1, hj => injection hj with hj; subst hj; exact ⟨_, rfl, AbsC.int⟩
  | 2, hj => injection hj with hj; subst hj; exact ⟨_, rfl, AbsC.int⟩
  | 3, hj => injection hj with hj; subst hj; exact ⟨_, rfl, AbsC.str⟩
  | 4, hj => injection hj with hj; subst hj; exact ⟨_, rfl, AbsC.int⟩
  | j + 5, hj => simp at hj
theorem str_in {n : Nat} {cs : List Value} {y : DataW H × List MemPlace} (h : DataW.trod enc Tryz.prog W base sp held n 9 cs = some y) (_ : Wts Tryz.prog 9 y.1) :
    ∃ q : List UInt8, True ∧ ([V.str q] : List V).length = 1 ∧ ∀ (j : Nat) c, cs[j]? = some c → ∃ v, ([V.str q] : List V)[j]? = some v ∧ AbsC c v := by
  obtain ⟨nm, rfl, _, _⟩ := DataW.trod_string Tryz.underlying9 h
  refine ⟨nm.data.toList, trivial, rfl, fun j c hj => ?_⟩
  cases j with
  | zero => injection hj with hj; subst hj; exact ⟨_, rfl, AbsC.str⟩
  | succ j => simp at hj

theorem obj_in {n : Nat} {cs : List Value} {y : DataW H × List MemPlace} (h : DataW.trod enc Tryz.prog W base sp held n 27 cs = some y) (hw : Wts Tryz.prog 27 y.1) :
    ∃ (o : ObjD) (c : Oc), ObjOk o ∧ Room o ∧ (∀ ρ μ, concL ρ μ (c.cells o) = some cs) ∧ ∀ hp K, Ob (gW W) hp K c o := by
  obtain ⟨xs, m, rfl, rfl, hl, hn, hi⟩ := DataW.trod_struct Tryz.underlying27 h
  rw [cells27] at hl
  obtain ⟨c0, c1, c2, c3, c4, c5, c6, rfl⟩ := list7 hl
  obtain ⟨x0, x1, x2, x3, x4, x5, x6, rfl⟩ := list7 hn
  have i0 := fld hi 0 9 0 rfl rfl rfl cells9
  have i1 := fld hi 1 22 1 rfl rfl rfl cells22
  have i2 := fld hi 2 22 2 rfl rfl rfl cells22
  have i3 := fld hi 3 23 3 rfl rfl rfl cells23
  have i4 := fld hi 4 24 4 rfl rfl rfl cells24
  have i5 := fld hi 5 25 5 rfl rfl rfl cells25
  have i6 := fld hi 6 9 6 rfl rfl rfl cells9
  obtain ⟨nm, e0, _, _⟩ := DataW.trod_string Tryz.underlying9 (show DataW.trod enc Tryz.prog W base sp held m 9 [c0] = some x0 from i0)
  obtain ⟨c1', cv, cd, e1, hcv, _, hcs, hco⟩ := bytesW (E := E (gW W)) E_globs Tryz.underlying22 Tryz.underlying5 cells5 (show DataW.trod enc Tryz.prog W base sp held m 22 [c1] = some x1 from i1) (wts_field hw Tryz.underlying27 (j := 1) rfl rfl)
  obtain ⟨c2', dv, dd, e2, hdv, _, hds, hdo⟩ := bytesW (E := E (gW W)) E_globs Tryz.underlying22 Tryz.underlying5 cells5 (show DataW.trod enc Tryz.prog W base sp held m 22 [c2] = some x2 from i2) (wts_field hw Tryz.underlying27 (j := 2) rfl rfl)
  obtain ⟨c3', sv, S, e3, hsv, hS, hsl, hss, hso⟩ := sliceW (α := SymD) (f := symV) (E := E (gW W)) E_globs Tryz.underlying23 cells89 (by decide) (fun n cs' y hy hw => sym_in hy hw) (show DataW.trod enc Tryz.prog W base sp held m 23 [c3] = some x3 from i3) (wts_field hw Tryz.underlying27 (j := 3) rfl rfl)
  obtain ⟨c4', rv, R, e4, hrv, hR, hrl, hrs, hro⟩ := sliceW (α := RelD) (f := relV) (E := E (gW W)) E_globs Tryz.underlying24 cells91 (by decide) (fun n cs' y hy hw => rel_in hy hw) (show DataW.trod enc Tryz.prog W base sp held m 24 [c4] = some x4 from i4) (wts_field hw Tryz.underlying27 (j := 4) rfl rfl)
  obtain ⟨c5', nv, N, e5, hnv, _, hnl, hns, hno⟩ := sliceW (α := List UInt8) (f := fun s => [V.str s]) (Pr := fun _ => True) (E := E (gW W)) E_globs Tryz.underlying25 cells9 (by decide) (fun n cs' y hy hw => str_in hy hw) (show DataW.trod enc Tryz.prog W base sp held m 25 [c5] = some x5 from i5) (wts_field hw Tryz.underlying27 (j := 5) rfl rfl)
  obtain ⟨en, e6, _, _⟩ := DataW.trod_string Tryz.underlying9 (show DataW.trod enc Tryz.prog W base sp held m 9 [c6] = some x6 from i6)
  injection e0 with e0
  injection e1 with e1
  injection e2 with e2
  injection e3 with e3
  injection e4 with e4
  injection e5 with e5
  injection e6 with e6
  subst e0 e1 e2 e3 e4 e5 e6
  rw [bytes89, reach_eq] at hsl
  rw [bytes91, reach_eq] at hrl
  rw [bytes9, reach_eq] at hnl
  refine ⟨⟨nm.data.toList, cd, dd, S, R, N, en.data.toList⟩, ⟨cv, dv, sv, rv, nv⟩, ⟨hS, hR⟩, ⟨?_, ?_, ?_⟩, fun ρ μ => ?_, fun hp K => ⟨hcs hp, hds hp, hss hp, hrs hp, ?_, ?_, ?_, ?_, ?_, ?_⟩⟩
  · show S.length < _; omega
  · show R.length < _; omega
  · show N.length < _; omega
  · exact concL_mk rfl (concL_mk (hcv.conc ρ μ) (concL_mk (hdv.conc ρ μ) (concL_mk (hsv.conc ρ μ) (concL_mk (hrv.conc ρ μ) (concL_mk (hnv.conc ρ μ) (concL_mk rfl rfl))))))
  · have := hns hp
    rwa [← List.map_eq_flatMap] at this
  · exact fun b o n k e => absurd e (hco b o n k)
  · exact fun b o n k e => absurd e (hdo b o n k)
  · exact fun b o n k e => absurd e (hso b o n k)
  · exact fun b o n k e => absurd e (hro b o n k)
  · exact fun b o n k e => absurd e (hno b o n k)

theorem pair_cells {fuel : Nat} {c0 c1 : Value} {b0 b1 : Bool} {y : DataW H × List MemPlace}
    (h : DataW.trod enc Tryz.prog W base sp held fuel 218 [c0, c1] = some y) (hy : y.1 = .agg [.lit (.bool b0), .lit (.bool b1)]) : c0 = .bool b0 ∧ c1 = .bool b1 := by
  obtain ⟨y0, y1, n, rfl, _, h0, h1⟩ := trod_struct2 Tryz.underlying218 h
  rw [cells4] at h0 h1
  obtain ⟨z0, e0, rfl⟩ := DataW.trod_bool Tryz.underlying4 h0
  obtain ⟨z1, e1, rfl⟩ := DataW.trod_bool Tryz.underlying4 h1
  simp only [DataW.agg.injEq, List.cons.injEq, DataW.lit.injEq, Lit.bool.injEq, and_true] at hy
  simp at e0 e1
  exact ⟨by rw [e0, hy.1], by rw [e1, hy.2]⟩
def flags : List Value := [.bool false, .bool false, .bool false, .bool true, .bool true, .bool false]
set_option maxRecDepth 100000 in
theorem values_cells {fuel : Nat} {cs : List Value} {p : List MemPlace}
    (h : DataW.trod enc Tryz.prog W base sp held fuel 219 cs = some (YtloblhhnlaaajaaGreatDoor.Rows.laid_orpiment_object_values, p)) : cs = flags := by
  obtain ⟨xs, m, rfl, hx, hl, hn, hi⟩ := DataW.trod_array Tryz.underlying219 h
  rw [cells219] at hl
  have hd := congrArg Prod.fst hx
  simp only [YtloblhhnlaaajaaGreatDoor.Rows.laid_orpiment_object_values, DataW.agg.injEq] at hd
  match cs, hl with
  | [c0, c1, c2, c3, c4, c5], _ =>
    match xs, hn with
    | [x0, x1, x2], _ =>
      simp only [List.map_cons, List.map_nil, List.cons.injEq, and_true] at hd
      have i0 := hi 0 (by omega)
      have i1 := hi 1 (by omega)
      have i2 := hi 2 (by omega)
      rw [cells218] at i0 i1 i2
      obtain ⟨rfl, rfl⟩ := pair_cells (b0 := false) (b1 := false) (by simpa using i0) hd.1.symm
      obtain ⟨rfl, rfl⟩ := pair_cells (b0 := false) (b1 := true) (by simpa using i1) hd.2.1.symm
      obtain ⟨rfl, rfl⟩ := pair_cells (b0 := true) (b1 := false) (by simpa using i2) hd.2.2.symm
      rfl
set_option maxRecDepth 100000 in
theorem four_cells {fuel : Nat} {c0 c1 c2 c3 : Value} {a0 a1 a2 a3 : Int} {y : DataW H × List MemPlace}
    (h : DataW.trod enc Tryz.prog W base sp held fuel 178 [c0, c1, c2, c3] = some y) (hy : y.1 = .agg [.lit (.int .u8 a0), .lit (.int .u8 a1), .lit (.int .u8 a2), .lit (.int .u8 a3)]) : c0 = .int .u8 a0 ∧ c1 = .int .u8 a1 ∧ c2 = .int .u8 a2 ∧ c3 = .int .u8 a3 := by
  obtain ⟨xs, m, rfl, rfl, hl, hn, hi⟩ := DataW.trod_array Tryz.underlying178 h
  match xs, hn with
  | [x0, x1, x2, x3], _ =>
    have i0 := hi 0 (by omega)
    have i1 := hi 1 (by omega)
    have i2 := hi 2 (by omega)
    have i3 := hi 3 (by omega)
    rw [cells5] at i0 i1 i2 i3
    obtain ⟨z0, e0, e0', _⟩ := DataW.trod_int Tryz.underlying5 (show DataW.trod enc Tryz.prog W base sp held m 5 [c0] = some x0 from i0)
    obtain ⟨z1, e1, e1', _⟩ := DataW.trod_int Tryz.underlying5 (show DataW.trod enc Tryz.prog W base sp held m 5 [c1] = some x1 from i1)
    obtain ⟨z2, e2, e2', _⟩ := DataW.trod_int Tryz.underlying5 (show DataW.trod enc Tryz.prog W base sp held m 5 [c2] = some x2 from i2)
    obtain ⟨z3, e3, e3', _⟩ := DataW.trod_int Tryz.underlying5 (show DataW.trod enc Tryz.prog W base sp held m 5 [c3] = some x3 from i3)
    subst e0' e1' e2' e3'
    simp at hy e0 e1 e2 e3
    obtain ⟨rfl, rfl, rfl, rfl⟩ := hy
    exact ⟨e0, e1, e2, e3⟩
def mags : List Value := [.int .u8 79, .int .u8 66, .int .u8 74, .int .u8 49, .int .u8 73, .int .u8 77, .int .u8 71, .int .u8 49]
set_option maxRecDepth 100000 in
theorem magics_cells {fuel : Nat} {cs : List Value} {p : List MemPlace}
    (h : DataW.trod enc Tryz.prog W base sp held fuel 179 cs = some (YtloblhhnlaaajaaGreatDoor.Rows.laid_orpiment_object_magics, p)) : cs = mags := by
  obtain ⟨xs, m, rfl, hx, hl, hn, hi⟩ := DataW.trod_array Tryz.underlying179 h
  rw [cells179] at hl
  have hd := congrArg Prod.fst hx
  simp only [YtloblhhnlaaajaaGreatDoor.Rows.laid_orpiment_object_magics, DataW.agg.injEq] at hd
  match cs, hl with
  | [c0, c1, c2, c3, c4, c5, c6, c7], _ =>
    match xs, hn with
    | [x0, x1], _ =>
      simp only [List.map_cons, List.map_nil, List.cons.injEq, and_true] at hd
      have i0 := hi 0 (by omega)
      have i1 := hi 1 (by omega)
      rw [cells178] at i0 i1
      obtain ⟨rfl, rfl, rfl, rfl⟩ := four_cells (by simpa using i0) hd.1.symm
      obtain ⟨rfl, rfl, rfl, rfl⟩ := four_cells (by simpa using i1) hd.2.symm
      rfl
end
end Go.Proofs.OP
