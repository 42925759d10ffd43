/- ObjectLazy, as given. -/
import Derived.Test.YtloblhhnlaaajaaDoorV15
import Derived.Test.YtloblhhnlaaajaaDoorV20
import Derived.Test.YtloblhhnlaaajaaDoorV39
import Derived.Test.YtloblhhnlaaajaaDoorV41
import Derived.Test.YtloblhhnlaaajaaDoorCards
import Derived.Test.YtloblhhnlaaajaaDoorTie
import Derived.Deep.DeepLaidRun
import Derived.Lib.LaidTab
set_option linter.unusedVariables false
set_option linter.unusedSimpArgs false
set_option linter.defProp false
namespace Go.Proofs.OP
open Go Go.Ev Go.RowKit Go.ChangeShapes Go.WideShapes Go.ChangeAt
open Go.Proofs YtloblhhnlaaajaaDoor

theorem gVals : Tryd.prog.globalNamed "orpiment/object.values" = some 0 := by kernel_rfl
theorem gValsType : (Tryd.prog.globals[0]?).map (·.type) = some 185 := by kernel_rfl
theorem gMags : Tryd.prog.globalNamed "orpiment/object.magics" = some 1 := by kernel_rfl
theorem gMagsType : (Tryd.prog.globals[1]?).map (·.type) = some 200 := by kernel_rfl
theorem var_cells {W : World} {n : String} {g : Nat} {cs : Array Value} (hg : Tryd.prog.globalNamed n = some g) (hv : W.var? Tryd.prog n = some cs) : ∃ arr e fz, W.heap[g]? = some (.cells arr e fz) ∧ arr = cs := by
 simp only [World.var?, hg, Option.bind_some] at hv
 split at hv
 ·rename_i arr e fz hb
  injection hv with hv
  exact ⟨arr, e, fz, hb, hv⟩
 ·cases hv
theorem laid_g1 {W : World} (h : laidMetH Tryd.prog [("orpiment/object.values", Rows.laid_orpiment_object_values)] W) : (gW W).get 0 = some flagsV := by
 obtain ⟨ps, ⟨g2, t2, cs2, fuel2, p2, q2, hg2, ht2, hv2, hd2, _, _⟩, _⟩ := (show laidMet Tryd.prog [("orpiment/object.values", Rows.laid_orpiment_object_values)] W from h)
 obtain rfl := Option.some.inj (gVals.symm.trans hg2)
 obtain rfl := Option.some.inj (gValsType.symm.trans ht2)
 have c2 := values_cells hd2
 obtain ⟨a2, e2, z2, b2, r2⟩ := var_cells gVals hv2
 refine gW_part b2 (by rw [r2, c2]; rfl) (fun k v hv => ?_)
 rw [r2, c2] at hv
 simp only [flags, List.mem_cons, List.not_mem_nil, or_false] at hv
 rcases hv with rfl | rfl | rfl | rfl | rfl | rfl <;> rfl
def setc (vs : List Value) : Obj → Obj
 | .cells _ t frozen => .cells vs.toArray t frozen
 | o => o
noncomputable def laidWorld (os : Os) : World :=
 { World.holding Tryd.prog os ⟨#[], #[], []⟩ with heap := ((World.holding Tryd.prog os ⟨#[], #[], []⟩).heap.modify 0 (setc flags)).modify 1 (setc mags) }
end Go.Proofs.OP

namespace Go.Proofs.YtloblhhnlaaajaaDoor.objectLazy
open Go Go.Ev Go.RowKit Go.ChangeShapes Go.WideShapes Go.ChangeAt Go.Proofs Go.Proofs.OP

theorem has (g : T (List V)) : ((E g).fns.get 7).isSome = true := by rw [fn7]; rfl
theorem reads : ∀ t ∈ Tryd.f7.params.toList, Tryd.prog.readableRec t = true ∧ t < Tryd.prog.types.size := by
 rw [Tryd.params7]
 intro t ht
 simp only [List.mem_cons, List.not_mem_nil, or_false] at ht
 rcases ht with rfl | rfl
 ·exact ⟨by kernel_rfl, of_decide_eq_true (by kernel_rfl)⟩
 ·exact ⟨by kernel_rfl, of_decide_eq_true (by kernel_rfl)⟩
theorem resTy : Tryd.f7.resultTypes = #[4] := by kernel_rfl

set_option maxRecDepth 100000 in
theorem contract (H : Type) (enc : TypeId × Value → H) (W : World) (base : Nat) (args : Array Value) (ds gs : List (DataW H)) (before : List MemPlace)
  (hval : ∀ (j : Nat) t v, Tryd.f7.params[j]? = some t → args[j]? = some v → Value.okWide Tryd.prog W .any base t v)
  (hW : DataW.Whole enc Tryd.prog Tryd.f7.params.toList Rows.objectLazySpec.vars false W args.toList ds gs before)
  (hsz : (DataW.weightsEach Tryd.prog (Tryd.f7.params.toList ++ (OpenSpec.ofChange Rows.objectLazySpec).bare.plain.varTypes Tryd.prog) (ds ++ gs)).all (· ≤ reachBytes) = true) (hL : laidMetH Tryd.prog Rows.objectLazyRow.laid W) :
  Calls Tryd.prog 7 args W fun e W' => ∃ v, e = .returned v ∧ Rows.objectLazySpec.post enc Tryd.prog Tryd.f7 false true false false W args v W' := by
 have hW' := hW
 have hg0 := laid_g1 hL
 obtain ⟨p, q, hA0, hV, rfl, hfz, hnd⟩ := hW
 have hA : DataW.TrodAll enc Tryd.prog W 0 (fun _ => true) true Tryd.f7.params.toList args.toList ds p := hA0
 rw [Tryd.params7] at hA hval hsz
 obtain ⟨v0, vs0, d0, ds0, p0, q0, hargs, rfl, rfl, ⟨n0, h0⟩, r0⟩ := trodAll_cons hA
 obtain ⟨v1, vs1, d1, ds1, p1, q1, hargs1, rfl, rfl, h1, r1⟩ := trodAll_cons r0
 obtain ⟨rfl, rfl, rfl⟩ := trodAll_nil r1
 subst hargs1
 obtain rfl : args = #[v0, v1] := by cases args; simp_all
 obtain ⟨rfl, rfl⟩ := trodVars_none hV
 obtain ⟨n1, h1⟩ := h1
 obtain ⟨cs0, rfl, _⟩ := okWide_struct Tryd.underlying85 (hval 0 85 v0 rfl rfl)
 obtain ⟨a1, l1, k1, rfl⟩ := okWide_slice Tryd.underlying86 (hval 1 86 v1 rfl rfl)
 obtain ⟨c, x, ls, ns, L, N, hr, hconc, hob⟩ := ld_in h0 (wts_each hsz (j := 0) rfl rfl)
 obtain ⟨c1, uv, U, e1, huv, _, hlen, hus, huo⟩ := sliceW (α := UseD) (f := useV) (Pr := fun _ => True) (E := E (gW W)) E_globs Tryd.underlying86 cells92 (by decide) (fun n cs' y hy hw => use_in hy hw) h1 (wts_each hsz (j := 1) rfl rfl)
 obtain rfl : Value.slice a1 l1 k1 = c1 := by
  have : [Value.slice a1 l1 k1] = [c1] := e1
  injection this
 rw [bytes92, reach_eq] at hlen
 have hc0 : conc (rhoW W) (fun _ => none) (.agg (ldC c x ls ns)) = some (.agg cs0) := by
  have := hconc (rhoW W) (fun _ => none)
  simp only [conc, this]
  rfl
 have walk : Calls Tryd.prog 7 #[.agg cs0, .slice a1 l1 k1] W fun e w' => e = .returned (.bool true) ∧ Below W.heap.size W w' :=
  by
   refine calls_of (ρ := rhoW W) (A := [.agg cs0, .slice a1 l1 k1]) (Eok (gW W) hg0) (rhoW_plain W) (has _) (lazy_ok (hob _ _) hr (hus _) (fun b o n k e => absurd e (huo b o n k)) (by omega)) (concL_mk hc0 (concL_mk (huv.conc _ _) rfl)) ?_
   have := globsW (E := E (gW W)) W
   have e : ({ E (gW W) with globs := gW W } : Env) = E (gW W) := by unfold E envOf4; rfl
   rwa [e] at this
 refine walk.mono fun e W' ⟨he, hb⟩ => ?_
 subst he
 exact ⟨_, rfl, post_true laidOut reads rfl resTy Tryd.underlying4 hW' rfl hb⟩

def wargs : Array Value := #[.agg #[.int .i64 0, .slice none 0 0, .int .i64 0, .int .i64 0, .slice none 0 0, .slice none 0 0, .slice none 0 0, .slice none 0 0, .slice none 0 0], .slice none 0 0]
theorem laid_met (os : Os) : laidMet Tryd.prog Rows.objectLazyRow.laid ((laidWorld os).forCall (fun _ _ => 0) ⟨#[], wargs, []⟩).memory :=
 laidMet_of_run3 8 (by kernel_rfl) (by kernel_rfl) (by kernel_rfl)
theorem read0 (os : Os) {H : Type} (enc : TypeId × Value → H) : ∃ places, DataW.whole enc Tryd.prog ((laidWorld os).forCall (fun _ _ => 0) ⟨#[], wargs, []⟩).memory Tryd.f7.params.toList Rows.objectLazySpec.vars false wargs.toList 8 = some ([.agg [.agg [.lit (.int .i64 0), .nil, .lit (.int .i64 0), .lit (.int .i64 0), .nil, .nil, .nil], .nil, .nil], .nil], [], places) :=
 ⟨[], by kernel_rfl⟩

set_option maxRecDepth 100000 in
theorem lifted (os : Os) (started : os.Started) (H : Type) (enc : TypeId × Value → H) (F : Stop.Interp) :
  ReturnsInHanded {} Tryd.checked os 7 .any ((OpenSpec.ofChange Rows.objectLazySpec).preRow enc Tryd.prog Tryd.f7 Rows.objectLazyRow.domain false Rows.objectLazyRow.laid) (((OpenSpec.ofChange Rows.objectLazySpec).at F).post enc Tryd.prog Tryd.f7 false true false false) := by
 obtain ⟨places, hx⟩ := read0 os enc
 refine returnsInHanded_of_row (C := Tryd.checked) (s := OpenSpec.ofChange Rows.objectLazySpec) own started (by kernel_rfl) Tryd.func7
  (witness_row_at (enc := enc) (C := Tryd.checked) false (laidWorld os) wargs rfl (by kernel_rfl) (by kernel_rfl) (by kernel_rfl)
   (OpenSpec.preRow_of_cond 8 hx (by kernel_rfl) (fun k hk => by cases hk) (by kernel_rfl) (laid_met os))) ?_
 intro W base args ds gs before hval hW _ _ hsz hL _ _
 exact contract H enc W base args ds gs before hval hW hsz hL

theorem said : Rows.ObjectLazySaid :=
 OpenClaim.holds_of_cond 7 Tryd.f7 rfl rfl rfl rfl rfl rfl rfl ⟨rfl, rfl, rfl, rfl, rfl⟩ rfl rfl rfl rfl rfl (by kernel_rfl) Tryd.func7 (by kernel_rfl)
  (of_decide_eq_true (by kernel_rfl)) (by unfold Func.isWrapper; first | (rw [if_pos (by decide +kernel)]; kernel_rfl) | (rw [if_neg (by decide +kernel)]; exact ⟨rfl, rfl⟩))
  (fun os started H enc _ F => by rw [OpenClaim.pre_eq_preRow]; exact lifted os started H enc F)

theorem plain (f : FuncId) (fn : Func) (hf : Tryd.pinned.checked.prog.funcNamed "orpiment/orpimentlaw15.ObjectLazy" = some f) (hfn : Tryd.pinned.checked.prog.funcs[f]? = some fn) :
  false = Tryd.pinned.checked.prog.looks [] ∧ ∀ (j : Nat) t, fn.params[j]? = some t → Tryd.pinned.checked.prog.wantsStandIn t = false := by
 obtain rfl : f = 7 := Option.some.inj ((show Tryd.prog.funcNamed "orpiment/orpimentlaw15.ObjectLazy" = some 7 by kernel_rfl).symm.trans hf) |>.symm
 obtain rfl : fn = Tryd.f7 := (Option.some.inj (Tryd.func7.symm.trans hfn)).symm
 refine ⟨by kernel_rfl, fun j t ht => ?_⟩
 rw [Tryd.params7] at ht
 have hm := Array.mem_of_getElem? ht
 simp only [List.mem_toArray, List.mem_cons, List.not_mem_nil, or_false] at hm
 rcases hm with rfl | rfl
 ·exact (show Tryd.prog.wantsStandIn 85 = false by kernel_rfl)
 ·exact (show Tryd.prog.wantsStandIn 86 = false by kernel_rfl)

theorem card : Rows.ObjectLazyCardSaid :=
 Claim7.holds_tied_plain_at .later [] _ _ _ _ said (fun _ h => by cases h) (by kernel_rfl) (fun _ h => by cases h) objectLazy_row_tie rfl ⟨rfl, rfl⟩ (by kernel_rfl) rfl plain (by kernel_rfl)
end Go.Proofs.YtloblhhnlaaajaaDoor.objectLazy
