/- ObjectPrograms, as given. -/
import Derived.Test.YtloblhhnlaaajaaGreatDoorV15
import Derived.Test.YtloblhhnlaaajaaGreatDoorV45
set_option linter.unusedVariables false
set_option linter.unusedSimpArgs false
set_option linter.defProp false
namespace Go.Proofs.OP
open Go Go.Ev Go.RowKit Go.ChangeShapes Go.WideShapes Go.ChangeAt
open Go.Proofs YtloblhhnlaaajaaGreatDoor
theorem laid_g1 {W : World} (h : laidMetH Tryz.prog [("orpiment/object.values", Rows.laid_orpiment_object_values)] W) : (gW W).get 1 = some flagsV := by
 obtain ⟨ps, ⟨g2, t2, cs2, fuel2, p2, q2, hg2, ht2, hv2, hd2, _, _⟩, _⟩ := (show laidMet Tryz.prog [("orpiment/object.values", Rows.laid_orpiment_object_values)] W from h)
 obtain rfl := Option.some.inj (gVals.symm.trans hg2)
 obtain rfl := Option.some.inj (gValsType.symm.trans ht2)
 have c2 := values_cells hd2
 obtain ⟨a2, e2, z2, b2, r2⟩ := var_cells gVals hv2
 refine gW_part b2 (by rw [r2, c2]; rfl) (fun k v hv => ?_)
 rw [r2, c2] at hv
 simp only [flags, List.mem_cons, List.not_mem_nil, or_false] at hv
 rcases hv with rfl | rfl | rfl | rfl | rfl | rfl <;> rfl
end Go.Proofs.OP

namespace Go.Proofs.YtloblhhnlaaajaaGreatDoor.objectPrograms
open Go Go.Ev Go.RowKit Go.ChangeShapes Go.WideShapes Go.ChangeAt Go.Proofs Go.Proofs.OP

theorem has (g : T (List V)) : ((E g).fns.get 5).isSome = true := by rw [fn5]; rfl
theorem reads : ∀ t ∈ Tryz.f5.params.toList, Tryz.prog.readableRec t = true ∧ t < Tryz.prog.types.size := by
 rw [Tryz.params5]
 intro t ht
 simp only [List.mem_cons, List.not_mem_nil, or_false] at ht
 rcases ht with rfl | rfl
 ·exact ⟨by kernel_rfl, of_decide_eq_true (by kernel_rfl)⟩
 ·exact ⟨by kernel_rfl, of_decide_eq_true (by kernel_rfl)⟩
theorem resTy : Tryz.f5.resultTypes = #[4] := by kernel_rfl

set_option maxRecDepth 100000 in
theorem contract (H : Type) (enc : TypeId × Value → H) (W : World) (base : Nat) (args : Array Value) (ds gs : List (DataW H)) (before : List MemPlace)
  (hval : ∀ (j : Nat) t v, Tryz.f5.params[j]? = some t → args[j]? = some v → Value.okWide Tryz.prog W .any base t v)
  (hW : DataW.Whole enc Tryz.prog Tryz.f5.params.toList Rows.objectProgramsSpec.vars false W args.toList ds gs before)
  (hsz : (DataW.weightsEach Tryz.prog (Tryz.f5.params.toList ++ (OpenSpec.ofChange Rows.objectProgramsSpec).bare.plain.varTypes Tryz.prog) (ds ++ gs)).all (· ≤ reachBytes) = true) (hL : laidMetH Tryz.prog Rows.objectProgramsRow.laid W) :
  Calls Tryz.prog 5 args W fun e W' => ∃ v, e = .returned v ∧ Rows.objectProgramsSpec.post enc Tryz.prog Tryz.f5 false true false false W args v W' := by
 have hW' := hW
 have hg0 := laid_g1 hL
 obtain ⟨p, q, hA0, hV, rfl, hfz, hnd⟩ := hW
 have hA : DataW.TrodAll enc Tryz.prog W 0 (fun _ => true) true Tryz.f5.params.toList args.toList ds p := hA0
 rw [Tryz.params5] at hA hval hsz
 obtain ⟨v0, vs0, d0, ds0, p0, q0, hargs, rfl, rfl, ⟨n0, h0⟩, r0⟩ := trodAll_cons hA
 obtain ⟨v1, vs1, d1, ds1, p1, q1, hargs1, rfl, rfl, h1, r1⟩ := trodAll_cons r0
 obtain ⟨rfl, rfl, rfl⟩ := trodAll_nil r1
 subst hargs1
 obtain rfl : args = #[v0, v1] := by cases args; simp_all
 obtain ⟨rfl, rfl⟩ := trodVars_none hV
 obtain ⟨n1, h1⟩ := h1
 obtain ⟨cs0, rfl, _⟩ := okWide_struct Tryz.underlying67 (hval 0 67 v0 rfl rfl)
 obtain ⟨a1, l1, k1, rfl⟩ := okWide_slice Tryz.underlying68 (hval 1 68 v1 rfl rfl)
 obtain ⟨c, x, ls, ns, L, N, hr, hconc, hob⟩ := ld_in h0 (wts_each hsz (j := 0) rfl rfl)
 obtain ⟨c1, uv, U, e1, huv, _, hlen, hus, huo⟩ := sliceW (α := UseD) (f := useV) (Pr := fun _ => True) (E := E (gW W)) E_globs Tryz.underlying68 cells77 (by decide) (fun n cs' y hy hw => use_in hy hw) h1 (wts_each hsz (j := 1) rfl rfl)
 obtain rfl : Value.slice a1 l1 k1 = c1 := by
  have : [Value.slice a1 l1 k1] = [c1] := e1
  injection this
 rw [bytes77, reach_eq] at hlen
 have hc0 : conc (rhoW W) (fun _ => none) (.agg (ldC c x ls ns)) = some (.agg cs0) := by
  have := hconc (rhoW W) (fun _ => none)
  simp only [conc, this]
  rfl
 have walk : Calls Tryz.prog 5 #[.agg cs0, .slice a1 l1 k1] W fun e w' => e = .returned (.bool true) ∧ Below W.heap.size W w' :=
  by
   refine calls_of (ρ := rhoW W) (A := [.agg cs0, .slice a1 l1 k1]) (Eok (gW W) hg0) (rhoW_plain W) (has _) (programs_ok (hob _ _) hr (hus _) (fun b o n k e => absurd e (huo b o n k)) (by omega)) (concL_mk hc0 (concL_mk (huv.conc _ _) rfl)) ?_
   have := globsW (E := E (gW W)) W
   have e : ({ E (gW W) with globs := gW W } : Env) = E (gW W) := by unfold E envOf2; rfl
   rwa [e] at this
 refine walk.mono fun e W' ⟨he, hb⟩ => ?_
 subst he
 exact ⟨_, rfl, post_true laidOut reads rfl resTy Tryz.underlying4 hW' rfl hb⟩

def wargs : Array Value := #[.agg #[.int .i64 0, .slice none 0 0, .int .i64 0, .int .i64 0, .slice none 0 0, .slice none 0 0, .slice none 0 0, .slice none 0 0, .slice none 0 0], .slice none 0 0]
theorem laid_met (os : Os) : laidMet Tryz.prog Rows.objectProgramsRow.laid ((laidWorld os).forCall (fun _ _ => 0) ⟨#[], wargs, []⟩).memory :=
 laidMet_of_run3 8 (by kernel_rfl) (by kernel_rfl) (by kernel_rfl)
theorem read0 (os : Os) {H : Type} (enc : TypeId × Value → H) : ∃ places, DataW.whole enc Tryz.prog ((laidWorld os).forCall (fun _ _ => 0) ⟨#[], wargs, []⟩).memory Tryz.f5.params.toList Rows.objectProgramsSpec.vars false wargs.toList 8 = some ([.agg [.agg [.lit (.int .i64 0), .nil, .lit (.int .i64 0), .lit (.int .i64 0), .nil, .nil, .nil], .nil, .nil], .nil], [], places) :=
 ⟨[], by kernel_rfl⟩

set_option maxRecDepth 100000 in
theorem lifted (os : Os) (started : os.Started) (H : Type) (enc : TypeId × Value → H) (F : Stop.Interp) :
  ReturnsInHanded {} Tryz.checked os 5 .any ((OpenSpec.ofChange Rows.objectProgramsSpec).preRow enc Tryz.prog Tryz.f5 Rows.objectProgramsRow.domain false Rows.objectProgramsRow.laid) (((OpenSpec.ofChange Rows.objectProgramsSpec).at F).post enc Tryz.prog Tryz.f5 false true false false) := by
 obtain ⟨places, hx⟩ := read0 os enc
 refine returnsInHanded_of_row (C := Tryz.checked) (s := OpenSpec.ofChange Rows.objectProgramsSpec) own started (by kernel_rfl) Tryz.func5
  (witness_row_at (enc := enc) (C := Tryz.checked) false (laidWorld os) wargs rfl (by kernel_rfl) (by kernel_rfl) (by kernel_rfl)
   (OpenSpec.preRow_of_cond 8 hx (by kernel_rfl) (fun k hk => by cases hk) (by kernel_rfl) (laid_met os))) ?_
 intro W base args ds gs before hval hW _ _ hsz hL _ _
 exact contract H enc W base args ds gs before hval hW hsz hL

theorem said : Rows.ObjectProgramsSaid :=
 OpenClaim.holds_of_cond 5 Tryz.f5 rfl rfl rfl rfl rfl rfl rfl ⟨rfl, rfl, rfl, rfl, rfl⟩ rfl rfl rfl rfl rfl (by kernel_rfl) Tryz.func5 (by kernel_rfl)
  (of_decide_eq_true (by kernel_rfl)) (by unfold Func.isWrapper; first | (rw [if_pos (by decide +kernel)]; kernel_rfl) | (rw [if_neg (by decide +kernel)]; exact ⟨rfl, rfl⟩))
  (fun os started H enc _ F => by rw [OpenClaim.pre_eq_preRow]; exact lifted os started H enc F)

theorem plain (f : FuncId) (fn : Func) (hf : Tryz.pinned.checked.prog.funcNamed "orpiment/orpimentlaw15.ObjectPrograms" = some f) (hfn : Tryz.pinned.checked.prog.funcs[f]? = some fn) :
  false = Tryz.pinned.checked.prog.looks [] ∧ ∀ (j : Nat) t, fn.params[j]? = some t → Tryz.pinned.checked.prog.wantsStandIn t = false := by
 obtain rfl : f = 5 := Option.some.inj ((show Tryz.prog.funcNamed "orpiment/orpimentlaw15.ObjectPrograms" = some 5 by kernel_rfl).symm.trans hf) |>.symm
 obtain rfl : fn = Tryz.f5 := (Option.some.inj (Tryz.func5.symm.trans hfn)).symm
 refine ⟨by kernel_rfl, fun j t ht => ?_⟩
 rw [Tryz.params5] at ht
 have hm := Array.mem_of_getElem? ht
 simp only [List.mem_toArray, List.mem_cons, List.not_mem_nil, or_false] at hm
 rcases hm with rfl | rfl
 ·exact (show Tryz.prog.wantsStandIn 67 = false by kernel_rfl)
 ·exact (show Tryz.prog.wantsStandIn 68 = false by kernel_rfl)

theorem card : Rows.ObjectProgramsCardSaid :=
 Claim7.holds_tied_plain_at .later [] _ _ _ _ said (fun _ h => by cases h) (by kernel_rfl) (fun _ h => by cases h) objectPrograms_row_tie rfl ⟨rfl, rfl⟩ (by kernel_rfl) rfl plain (by kernel_rfl)
end Go.Proofs.YtloblhhnlaaajaaGreatDoor.objectPrograms
