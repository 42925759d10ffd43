/- ObjectDamage, as given. -/
import Derived.Test.YtloblhhnlaaajaaDoorH
import Derived.Test.YtloblhhnlaaajaaDoorCards
import Derived.Test.YtloblhhnlaaajaaDoorTie
import Derived.Deep.DeepLaidRun
import Derived.Lib.LaidTab
set_option linter.unusedVariables false
set_option linter.unusedSimpArgs false
set_option linter.defProp false
namespace Go.Proofs.OP
open Go Go.Ev Go.RowKit Go.ChangeShapes Go.WideShapes Go.ChangeAt
open Go.Proofs YtloblhhnlaaajaaDoor

theorem gVals : Tryd.prog.globalNamed "orpiment/object.values" = some 0 := by kernel_rfl
theorem gValsType : (Tryd.prog.globals[0]?).map (·.type) = some 185 := by kernel_rfl
theorem gMags : Tryd.prog.globalNamed "orpiment/object.magics" = some 1 := by kernel_rfl
theorem gMagsType : (Tryd.prog.globals[1]?).map (·.type) = some 200 := by kernel_rfl
theorem var_cells {W : World} {n : String} {g : Nat} {cs : Array Value} (hg : Tryd.prog.globalNamed n = some g) (hv : W.var? Tryd.prog n = some cs) : ∃ arr e fz, W.heap[g]? = some (.cells arr e fz) ∧ arr = cs := by
  simp only [World.var?, hg, Option.bind_some] at hv
  split at hv
  · rename_i arr e fz hb
    injection hv with hv
    exact ⟨arr, e, fz, hb, hv⟩
  · cases hv
/-- What the row lays of the variables, as the walk wants it. -/
theorem laid_gs {W : World} (h : laidMetH Tryd.prog [("orpiment/object.magics", Rows.laid_orpiment_object_magics), ("orpiment/object.values", Rows.laid_orpiment_object_values)] W) : (gW W).get 0 = some flagsV ∧ (gW W).get 1 = some magG := by
  obtain ⟨ps, ⟨g1, t1, cs1, fuel1, p1, q1, hg1, ht1, hv1, hd1, ⟨g2, t2, cs2, fuel2, p2, q2, hg2, ht2, hv2, hd2, _, _⟩, _⟩, _⟩ := (show laidMet Tryd.prog [("orpiment/object.magics", Rows.laid_orpiment_object_magics), ("orpiment/object.values", Rows.laid_orpiment_object_values)] W from h)
  obtain rfl := Option.some.inj (gMags.symm.trans hg1)
  obtain rfl := Option.some.inj (gMagsType.symm.trans ht1)
  obtain rfl := Option.some.inj (gVals.symm.trans hg2)
  obtain rfl := Option.some.inj (gValsType.symm.trans ht2)
  have c1 := magics_cells hd1
  have c2 := values_cells hd2
  obtain ⟨a1, e1, z1, b1, r1⟩ := var_cells gMags hv1
  obtain ⟨a2, e2, z2, b2, r2⟩ := var_cells gVals hv2
  constructor
  · refine gW_part b2 (by rw [r2, c2]; rfl) (fun k v hv => ?_)
    rw [r2, c2] at hv
    simp only [flags, List.mem_cons, List.not_mem_nil, or_false] at hv
    rcases hv with rfl | rfl | rfl | rfl | rfl | rfl <;> rfl
  · refine gW_part b1 (by rw [r1, c1]; rfl) (fun k v hv => ?_)
    rw [r1, c1] at hv
    simp only [mags, List.mem_cons, List.not_mem_nil, or_false] at hv
    rcases hv with rfl | rfl | rfl | rfl | rfl | rfl | rfl | rfl <;> rfl
def setc (vs : List Value) : Obj → Obj
  | .cells _ t frozen => .cells vs.toArray t frozen
  | o => o
/-- A world for the witness: the variables as their initialisers lay them. -/
noncomputable def laidWorld (os : Os) : World :=
  { World.holding Tryd.prog os ⟨#[], #[], []⟩ with heap := ((World.holding Tryd.prog os ⟨#[], #[], []⟩).heap.modify 0 (setc flags)).modify 1 (setc mags) }
end Go.Proofs.OP

namespace Go.Proofs.YtloblhhnlaaajaaDoor.objectDamage
open Go Go.Ev Go.RowKit Go.ChangeShapes Go.WideShapes Go.ChangeAt Go.Proofs Go.Proofs.OP

theorem has (g : T (List V)) : ((E g).fns.get 6).isSome = true := by rw [fn6]; rfl
theorem reads : ∀ t ∈ Tryd.f6.params.toList, Tryd.prog.readableRec t = true ∧ t < Tryd.prog.types.size := by
  rw [Tryd.params6]
  intro t ht
  simp only [List.mem_cons, List.not_mem_nil, or_false] at ht
  rcases ht with rfl | rfl | rfl
  · exact ⟨by kernel_rfl, of_decide_eq_true (by kernel_rfl)⟩
  · exact ⟨by kernel_rfl, of_decide_eq_true (by kernel_rfl)⟩
  · exact ⟨by kernel_rfl, of_decide_eq_true (by kernel_rfl)⟩
theorem resTy : Tryd.f6.resultTypes = #[4] := by kernel_rfl

set_option maxRecDepth 100000 in
theorem contract (H : Type) (enc : TypeId × Value → H) (W : World) (base : Nat) (args : Array Value) (ds gs : List (DataW H)) (before : List MemPlace)
    (hval : ∀ (j : Nat) t v, Tryd.f6.params[j]? = some t → args[j]? = some v → Value.okWide Tryd.prog W .any base t v)
    (hW : DataW.Whole enc Tryd.prog Tryd.f6.params.toList Rows.objectDamageSpec.vars false W args.toList ds gs before)
    (hsz : (DataW.weightsEach Tryd.prog (Tryd.f6.params.toList ++ (OpenSpec.ofChange Rows.objectDamageSpec).bare.plain.varTypes Tryd.prog) (ds ++ gs)).all (· ≤ reachBytes) = true) (hL : laidMetH Tryd.prog Rows.objectDamageRow.laid W) :
    Calls Tryd.prog 6 args W fun e W' => ∃ v, e = .returned v ∧ Rows.objectDamageSpec.post enc Tryd.prog Tryd.f6 false true false false W args v W' := by
  have hW' := hW
  obtain ⟨hg0, hg1⟩ := laid_gs hL
  obtain ⟨p, q, hA0, hV, rfl, hfz, hnd⟩ := hW
  have hA : DataW.TrodAll enc Tryd.prog W 0 (fun _ => true) true Tryd.f6.params.toList args.toList ds p := hA0
  rw [Tryd.params6] at hA hval hsz
  obtain ⟨v0, vs0, d0, ds0, p0, q0, hargs, rfl, rfl, ⟨n0, h0⟩, r0⟩ := trodAll_cons hA
  obtain ⟨v1, vs1, d1, ds1, p1, q1, hargs1, rfl, rfl, h1, r1⟩ := trodAll_cons r0
  obtain ⟨v2, vs2, d2, ds2, p2, q2, hargs2, rfl, rfl, h2, r2⟩ := trodAll_cons r1
  obtain ⟨rfl, rfl, rfl⟩ := trodAll_nil r2
  subst hargs2
  subst hargs1
  obtain rfl : args = #[v0, v1, v2] := by cases args; simp_all
  obtain ⟨rfl, rfl⟩ := trodVars_none hV
  obtain ⟨cs0, rfl, _⟩ := okWide_struct Tryd.underlying70 (hval 0 70 v0 rfl rfl)
  obtain ⟨n1, rfl, rfl, rfl, w1⟩ := open_int Tryd.underlying23 (hval 1 23 v1 rfl rfl) h1
  obtain ⟨n2, rfl, rfl, rfl, w2⟩ := open_int Tryd.underlying5 (hval 2 5 v2 rfl rfl) h2
  obtain ⟨o, c, ok, room, hconc, hob⟩ := obj_in h0 (wts_each hsz (j := 0) rfl rfl)
  have b1 := wf_u16 w1
  have b2 := wf_u8 w2
  have hc0 : conc (rhoW W) (fun _ => none) (.agg (c.cells o)) = some (.agg cs0) := by
    have := hconc (rhoW W) (fun _ => none)
    simp only [conc, this]
    rfl
  have e1 : n1 = ((n1.toNat : Nat) : Int) := by omega
  have e2 : n2 = (((UInt8.ofNat n2.toNat).toNat : Nat) : Int) := by rw [UInt8.toNat_ofNat']; omega
  have walk : Calls Tryd.prog 6 #[.agg cs0, .int .u16 n1, .int .u8 n2] W fun e w' => e = .returned (.bool true) ∧ Below W.heap.size W w' :=
    by
      rw [e1, e2]
      refine calls_of (ρ := rhoW W) (A := [.agg cs0, .int .u16 (n1.toNat : Int), .int .u8 ((UInt8.ofNat n2.toNat).toNat : Int)]) (Eok (gW W) hg0) (rhoW_plain W) (has _) (damage_ok hg1 (hob _ _) room ok (by omega)) (concL_mk hc0 (concL_mk rfl (concL_mk rfl rfl))) ?_
      have := globsW (E := E (gW W)) W
      have e : ({ E (gW W) with globs := gW W } : Env) = E (gW W) := by unfold E envOf2; rfl
      rwa [e] at this
  refine walk.mono fun e W' ⟨he, hb⟩ => ?_
  subst he
  exact ⟨_, rfl, post_true laidOut reads rfl resTy Tryd.underlying4 hW' rfl hb⟩

def wargs : Array Value := #[.agg #[.string ByteArray.empty, .slice none 0 0, .slice none 0 0, .slice none 0 0, .slice none 0 0, .slice none 0 0, .string ByteArray.empty], .int .u16 0, .int .u8 0]
theorem laid_met (os : Os) : laidMet Tryd.prog Rows.objectDamageRow.laid ((laidWorld os).forCall (fun _ _ => 0) ⟨#[], wargs, []⟩).memory :=
  laidMet_of_run3 8 (by kernel_rfl) (by kernel_rfl) (by kernel_rfl)
theorem read0 (os : Os) {H : Type} (enc : TypeId × Value → H) : ∃ places, DataW.whole enc Tryd.prog ((laidWorld os).forCall (fun _ _ => 0) ⟨#[], wargs, []⟩).memory Tryd.f6.params.toList Rows.objectDamageSpec.vars false wargs.toList 8 = some ([.agg [.lit (.string []), .nil, .nil, .nil, .nil, .nil, .lit (.string [])], .lit (.int .u16 0), .lit (.int .u8 0)], [], places) :=
  ⟨[], by kernel_rfl⟩

set_option maxRecDepth 100000 in
theorem lifted (os : Os) (started : os.Started) (H : Type) (enc : TypeId × Value → H) (F : Stop.Interp) :
    ReturnsInHanded {} Tryd.checked os 6 .any ((OpenSpec.ofChange Rows.objectDamageSpec).preRow enc Tryd.prog Tryd.f6 Rows.objectDamageRow.domain false Rows.objectDamageRow.laid) (((OpenSpec.ofChange Rows.objectDamageSpec).at F).post enc Tryd.prog Tryd.f6 false true false false) := by
  obtain ⟨places, hx⟩ := read0 os enc
  refine returnsInHanded_of_row (C := Tryd.checked) (s := OpenSpec.ofChange Rows.objectDamageSpec) own started (by kernel_rfl) Tryd.func6
    (witness_row_at (enc := enc) (C := Tryd.checked) false (laidWorld os) wargs rfl (by kernel_rfl) (by kernel_rfl) (by kernel_rfl)
      (OpenSpec.preRow_of_cond 8 hx (by kernel_rfl) (fun k hk => by cases hk) (by kernel_rfl) (laid_met os))) ?_
  intro W base args ds gs before hval hW _ _ hsz hL _ _
  exact contract H enc W base args ds gs before hval hW hsz hL

theorem said : Rows.ObjectDamageSaid :=
  OpenClaim.holds_of_cond 6 Tryd.f6 rfl rfl rfl rfl rfl rfl rfl ⟨rfl, rfl, rfl, rfl, rfl⟩ rfl rfl rfl rfl rfl (by kernel_rfl) Tryd.func6 (by kernel_rfl)
    (of_decide_eq_true (by kernel_rfl)) (by unfold Func.isWrapper; first | (rw [if_pos (by decide +kernel)]; kernel_rfl) | (rw [if_neg (by decide +kernel)]; exact ⟨rfl, rfl⟩))
    (fun os started H enc _ F => by rw [OpenClaim.pre_eq_preRow]; exact lifted os started H enc F)

/-- No parameter wants a stand-in; the program's own looks are off. -/
theorem plain (f : FuncId) (fn : Func) (hf : Tryd.pinned.checked.prog.funcNamed "orpiment/orpimentlaw15.ObjectDamage" = some f) (hfn : Tryd.pinned.checked.prog.funcs[f]? = some fn) :
    false = Tryd.pinned.checked.prog.looks [] ∧ ∀ (j : Nat) t, fn.params[j]? = some t → Tryd.pinned.checked.prog.wantsStandIn t = false := by
  obtain rfl : f = 6 := Option.some.inj ((show Tryd.prog.funcNamed "orpiment/orpimentlaw15.ObjectDamage" = some 6 by kernel_rfl).symm.trans hf) |>.symm
  obtain rfl : fn = Tryd.f6 := (Option.some.inj (Tryd.func6.symm.trans hfn)).symm
  refine ⟨by kernel_rfl, fun j t ht => ?_⟩
  rw [Tryd.params6] at ht
  have hm := Array.mem_of_getElem? ht
  simp only [List.mem_toArray, List.mem_cons, List.not_mem_nil, or_false] at hm
  rcases hm with rfl | rfl | rfl
  · exact (show Tryd.prog.wantsStandIn 70 = false by kernel_rfl)
  · exact (show Tryd.prog.wantsStandIn 23 = false by kernel_rfl)
  · exact (show Tryd.prog.wantsStandIn 5 = false by kernel_rfl)

/-- The card. -/
theorem card : Rows.ObjectDamageCardSaid :=
  Claim7.holds_tied_plain_at .later [] _ _ _ _ said (fun _ h => by cases h) (by kernel_rfl) (fun _ h => by cases h) objectDamage_row_tie rfl ⟨rfl, rfl⟩ (by kernel_rfl) rfl plain (by kernel_rfl)
end Go.Proofs.YtloblhhnlaaajaaDoor.objectDamage
