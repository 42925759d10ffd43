/- ObjectCodes, as given. -/
import Derived.Test.YtloblhhnlaaajaaGreatDoorB13
import Derived.Test.YtloblhhnlaaajaaGreatDoorH
import Derived.Test.YtloblhhnlaaajaaGreatDoorCards
import Derived.Test.YtloblhhnlaaajaaGreatDoorTie
import Derived.Deep.DeepLaidRun
import Derived.Lib.LaidTab
set_option linter.unusedVariables false
set_option linter.unusedSimpArgs false
set_option linter.defProp false
namespace Go.Proofs.OP
open Go Go.Ev Go.RowKit Go.ChangeShapes Go.WideShapes Go.ChangeAt
open Go.Proofs YtloblhhnlaaajaaGreatDoor

theorem gVals : Tryz.prog.globalNamed "orpiment/object.values" = some 1 := by kernel_rfl
theorem gValsType : (Tryz.prog.globals[1]?).map (·.type) = some 219 := by kernel_rfl
theorem gMags : Tryz.prog.globalNamed "orpiment/object.magics" = some 0 := by kernel_rfl
theorem gMagsType : (Tryz.prog.globals[0]?).map (·.type) = some 179 := by kernel_rfl
theorem var_cells {W : World} {n : String} {g : Nat} {cs : Array Value} (hg : Tryz.prog.globalNamed n = some g) (hv : W.var? Tryz.prog n = some cs) : ∃ arr e fz, W.heap[g]? = some (.cells arr e fz) ∧ arr = cs := by
  simp only [World.var?, hg, Option.bind_some] at hv
  split at hv
  · rename_i arr e fz hb
    injection hv with hv
    exact ⟨arr, e, fz, hb, hv⟩
  · cases hv
theorem laid_gs {W : World} (h : laidMetH Tryz.prog [("orpiment/object.magics", Rows.laid_orpiment_object_magics), ("orpiment/object.values", Rows.laid_orpiment_object_values)] W) : (gW W).get 1 = some flagsV ∧ (gW W).get 0 = some magG := by
  obtain ⟨ps, ⟨g1, t1, cs1, fuel1, p1, q1, hg1, ht1, hv1, hd1, ⟨g2, t2, cs2, fuel2, p2, q2, hg2, ht2, hv2, hd2, _, _⟩, _⟩, _⟩ := (show laidMet Tryz.prog [("orpiment/object.magics", Rows.laid_orpiment_object_magics), ("orpiment/object.values", Rows.laid_orpiment_object_values)] W from h)
  obtain rfl := Option.some.inj (gMags.symm.trans hg1)
  obtain rfl := Option.some.inj (gMagsType.symm.trans ht1)
  obtain rfl := Option.some.inj (gVals.symm.trans hg2)
  obtain rfl := Option.some.inj (gValsType.symm.trans ht2)
  have c1 := magics_cells hd1
  have c2 := values_cells hd2
  obtain ⟨a1, e1, z1, b1, r1⟩ := var_cells gMags hv1
  obtain ⟨a2, e2, z2, b2, r2⟩ := var_cells gVals hv2
  constructor
  · refine gW_part b2 (by rw [r2, c2]; rfl) (fun k v hv => ?_)
    rw [r2, c2] at hv
    simp only [flags, List.mem_cons, List.not_mem_nil, or_false] at hv
    rcases hv with rfl | rfl | rfl | rfl | rfl | rfl <;> rfl
  · refine gW_part b1 (by rw [r1, c1]; rfl) (fun k v hv => ?_)
    rw [r1, c1] at hv
    simp only [mags, List.mem_cons, List.not_mem_nil, or_false] at hv
    rcases hv with rfl | rfl | rfl | rfl | rfl | rfl | rfl | rfl <;> rfl
def setc (vs : List Value) : Obj → Obj
  | .cells _ t frozen => .cells vs.toArray t frozen
  | o => o
noncomputable def laidWorld (os : Os) : World :=
  { World.holding Tryz.prog os ⟨#[], #[], []⟩ with heap := ((World.holding Tryz.prog os ⟨#[], #[], []⟩).heap.modify 0 (setc mags)).modify 1 (setc flags) }
end Go.Proofs.OP

namespace Go.Proofs.YtloblhhnlaaajaaGreatDoor.objectCodes
open Go Go.Ev Go.RowKit Go.ChangeShapes Go.WideShapes Go.ChangeAt Go.Proofs Go.Proofs.OP

theorem has (g : T (List V)) : ((E g).fns.get 3).isSome = true := by rw [fn3]; rfl
theorem reads : ∀ t ∈ Tryz.f3.params.toList, Tryz.prog.readableRec t = true ∧ t < Tryz.prog.types.size := by
  rw [Tryz.params3]
  intro t ht
  simp only [List.mem_cons, List.not_mem_nil, or_false] at ht
  rcases ht with rfl | rfl
  · exact ⟨by kernel_rfl, of_decide_eq_true (by kernel_rfl)⟩
  · exact ⟨by kernel_rfl, of_decide_eq_true (by kernel_rfl)⟩
theorem resTy : Tryz.f3.resultTypes = #[4] := by kernel_rfl

set_option maxRecDepth 100000 in
theorem contract (H : Type) (enc : TypeId × Value → H) (W : World) (base : Nat) (args : Array Value) (ds gs : List (DataW H)) (before : List MemPlace)
    (hval : ∀ (j : Nat) t v, Tryz.f3.params[j]? = some t → args[j]? = some v → Value.okWide Tryz.prog W .any base t v)
    (hW : DataW.Whole enc Tryz.prog Tryz.f3.params.toList Rows.objectCodesSpec.vars false W args.toList ds gs before)
    (hsz : (DataW.weightsEach Tryz.prog (Tryz.f3.params.toList ++ (OpenSpec.ofChange Rows.objectCodesSpec).bare.plain.varTypes Tryz.prog) (ds ++ gs)).all (· ≤ reachBytes) = true) (hL : laidMetH Tryz.prog Rows.objectCodesRow.laid W) :
    Calls Tryz.prog 3 args W fun e W' => ∃ v, e = .returned v ∧ Rows.objectCodesSpec.post enc Tryz.prog Tryz.f3 false true false false W args v W' := by
  have hW' := hW
  obtain ⟨hg0, hg1⟩ := laid_gs hL
  obtain ⟨p, q, hA0, hV, rfl, hfz, hnd⟩ := hW
  have hA : DataW.TrodAll enc Tryz.prog W 0 (fun _ => true) true Tryz.f3.params.toList args.toList ds p := hA0
  rw [Tryz.params3] at hA hval hsz
  obtain ⟨v0, vs0, d0, ds0, p0, q0, hargs, rfl, rfl, ⟨n0, h0⟩, r0⟩ := trodAll_cons hA
  obtain ⟨v1, vs1, d1, ds1, p1, q1, hargs1, rfl, rfl, h1, r1⟩ := trodAll_cons r0
  obtain ⟨rfl, rfl, rfl⟩ := trodAll_nil r1
  subst hargs1
  obtain rfl : args = #[v0, v1] := by cases args; simp_all
  obtain ⟨rfl, rfl⟩ := trodVars_none hV
  obtain ⟨n1, h1⟩ := h1
  obtain ⟨cs0, rfl, _⟩ := okWide_struct Tryz.underlying27 (hval 0 27 v0 rfl rfl)
  obtain ⟨a1, l1, k1, rfl⟩ := okWide_slice Tryz.underlying22 (hval 1 22 v1 rfl rfl)
  obtain ⟨o, c, ok, room, hconc, hob⟩ := obj_in h0 (wts_each hsz (j := 0) rfl rfl)
  obtain ⟨c1, bv, xs, e1, hbv, hlen, hbs, hbo⟩ := bytesW (E := E (gW W)) E_globs Tryz.underlying22 Tryz.underlying5 cells5 h1 (wts_each hsz (j := 1) rfl rfl)
  obtain rfl : Value.slice a1 l1 k1 = c1 := by
    have : [Value.slice a1 l1 k1] = [c1] := e1
    injection this
  rw [show Tryz.prog.bytesOf 5 = 1 by kernel_rfl, Nat.mul_one, reach_eq] at hlen
  have hc0 : conc (rhoW W) (fun _ => none) (.agg (c.cells o)) = some (.agg cs0) := by
    have := hconc (rhoW W) (fun _ => none)
    simp only [conc, this]
    rfl
  have walk : Calls Tryz.prog 3 #[.agg cs0, .slice a1 l1 k1] W fun e w' => e = .returned (.bool true) ∧ Below W.heap.size W w' :=
    by
      refine calls_of (ρ := rhoW W) (A := [.agg cs0, .slice a1 l1 k1]) (Eok (gW W) hg0) (rhoW_plain W) (has _) (codes_ok hg1 (hob _ _) room (hbs _) (fun b o n k e => absurd e (hbo b o n k)) (by omega)) (concL_mk hc0 (concL_mk (hbv.conc _ _) rfl)) ?_
      have := globsW (E := E (gW W)) W
      have e : ({ E (gW W) with globs := gW W } : Env) = E (gW W) := by unfold E envOf2; rfl
      rwa [e] at this
  refine walk.mono fun e W' ⟨he, hb⟩ => ?_
  subst he
  exact ⟨_, rfl, post_true laidOut reads rfl resTy Tryz.underlying4 hW' rfl hb⟩

def wargs : Array Value := #[.agg #[.string ByteArray.empty, .slice none 0 0, .slice none 0 0, .slice none 0 0, .slice none 0 0, .slice none 0 0, .string ByteArray.empty], .slice none 0 0]
theorem laid_met (os : Os) : laidMet Tryz.prog Rows.objectCodesRow.laid ((laidWorld os).forCall (fun _ _ => 0) ⟨#[], wargs, []⟩).memory :=
  laidMet_of_run3 8 (by kernel_rfl) (by kernel_rfl) (by kernel_rfl)
theorem read0 (os : Os) {H : Type} (enc : TypeId × Value → H) : ∃ places, DataW.whole enc Tryz.prog ((laidWorld os).forCall (fun _ _ => 0) ⟨#[], wargs, []⟩).memory Tryz.f3.params.toList Rows.objectCodesSpec.vars false wargs.toList 8 = some ([.agg [.lit (.string []), .nil, .nil, .nil, .nil, .nil, .lit (.string [])], .nil], [], places) :=
  ⟨[], by kernel_rfl⟩

set_option maxRecDepth 100000 in
theorem lifted (os : Os) (started : os.Started) (H : Type) (enc : TypeId × Value → H) (F : Stop.Interp) :
    ReturnsInHanded {} Tryz.checked os 3 .any ((OpenSpec.ofChange Rows.objectCodesSpec).preRow enc Tryz.prog Tryz.f3 Rows.objectCodesRow.domain false Rows.objectCodesRow.laid) (((OpenSpec.ofChange Rows.objectCodesSpec).at F).post enc Tryz.prog Tryz.f3 false true false false) := by
  obtain ⟨places, hx⟩ := read0 os enc
  refine returnsInHanded_of_row (C := Tryz.checked) (s := OpenSpec.ofChange Rows.objectCodesSpec) own started (by kernel_rfl) Tryz.func3
    (witness_row_at (enc := enc) (C := Tryz.checked) false (laidWorld os) wargs rfl (by kernel_rfl) (by kernel_rfl) (by kernel_rfl)
      (OpenSpec.preRow_of_cond 8 hx (by kernel_rfl) (fun k hk => by cases hk) (by kernel_rfl) (laid_met os))) ?_
  intro W base args ds gs before hval hW _ _ hsz hL _ _
  exact contract H enc W base args ds gs before hval hW hsz hL

theorem said : Rows.ObjectCodesSaid :=
  OpenClaim.holds_of_cond 3 Tryz.f3 rfl rfl rfl rfl rfl rfl rfl ⟨rfl, rfl, rfl, rfl, rfl⟩ rfl rfl rfl rfl rfl (by kernel_rfl) Tryz.func3 (by kernel_rfl)
    (of_decide_eq_true (by kernel_rfl)) (by unfold Func.isWrapper; first | (rw [if_pos (by decide +kernel)]; kernel_rfl) | (rw [if_neg (by decide +kernel)]; exact ⟨rfl, rfl⟩))
    (fun os started H enc _ F => by rw [OpenClaim.pre_eq_preRow]; exact lifted os started H enc F)

theorem plain (f : FuncId) (fn : Func) (hf : Tryz.pinned.checked.prog.funcNamed "orpiment/orpimentlaw15.ObjectCodes" = some f) (hfn : Tryz.pinned.checked.prog.funcs[f]? = some fn) :
    false = Tryz.pinned.checked.prog.looks [] ∧ ∀ (j : Nat) t, fn.params[j]? = some t → Tryz.pinned.checked.prog.wantsStandIn t = false := by
  obtain rfl : f = 3 := Option.some.inj ((show Tryz.prog.funcNamed "orpiment/orpimentlaw15.ObjectCodes" = some 3 by kernel_rfl).symm.trans hf) |>.symm
  obtain rfl : fn = Tryz.f3 := (Option.some.inj (Tryz.func3.symm.trans hfn)).symm
  refine ⟨by kernel_rfl, fun j t ht => ?_⟩
  rw [Tryz.params3] at ht
  have hm := Array.mem_of_getElem? ht
  simp only [List.mem_toArray, List.mem_cons, List.not_mem_nil, or_false] at hm
  rcases hm with rfl | rfl
  · exact (show Tryz.prog.wantsStandIn 27 = false by kernel_rfl)
  · exact (show Tryz.prog.wantsStandIn 22 = false by kernel_rfl)

theorem card : Rows.ObjectCodesCardSaid :=
  Claim7.holds_tied_plain_at .later [] _ _ _ _ said (fun _ h => by cases h) (by kernel_rfl) (fun _ h => by cases h) objectCodes_row_tie rfl ⟨rfl, rfl⟩ (by kernel_rfl) rfl plain (by kernel_rfl)
end Go.Proofs.YtloblhhnlaaajaaGreatDoor.objectCodes
