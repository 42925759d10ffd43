/- ObjectNil answers true, whatever its two arguments. Its conditions: the row's own, the table orpiment/object.values laid as the program's text lays it. -/
import Derived.Test.YtloblhhnlaaajaaDoorD1
import Derived.Test.YtloblhhnlaaajaaDoorChecked
import Derived.Test.YtloblhhnlaaajaaDoorCards
import Derived.Test.YtloblhhnlaaajaaDoorTie
import Derived.WalkKit
import Derived.ProofKit
import Derived.OpenShut
import Derived.ChangeMaps5
import Derived.Deep.DeepHandedRow
import Derived.Lib.LaidTab
namespace Go.Proofs.YtloblhhnlaaajaaDoor.objectNil
open Go.ChangeShapes Go.WideShapes Go.ChangeAt Go.RowKit Go.Ev

theorem own : ownKnob Tryd.prog.godebug = none := by kernel_rfl
theorem gTab : Tryd.prog.globalNamed "orpiment/object.values" = some 0 := by kernel_rfl
theorem gTabType : (Tryd.prog.globals[0]?).map (·.type) = some 185 := by kernel_rfl
theorem cells185 : Tryd.prog.cellsOf 185 = 6 := by kernel_rfl
theorem cells184 : Tryd.prog.cellsOf 184 = 2 := by kernel_rfl
theorem cells4 : Tryd.prog.cellsOf 4 = 1 := by kernel_rfl

/-- A struct of two flags. -/
theorem pair_cells {H : Type} {enc : TypeId × Value → H} {w : World} {base fuel : Nat} {sp : Nat → Bool} {held : Bool} {c0 c1 : Value} {b0 b1 : Bool} {y : DataW H × List MemPlace}
    (h : DataW.trod enc Tryd.prog w base sp held fuel 184 [c0, c1] = some y) (hy : y.1 = .agg [.lit (.bool b0), .lit (.bool b1)]) : c0 = .bool b0 ∧ c1 = .bool b1 := by
  obtain ⟨y0, y1, n, rfl, _, h0, h1⟩ := trod_struct2 Tryd.underlying184 h
  rw [cells4] at h0 h1
  obtain ⟨z0, e0, rfl⟩ := DataW.trod_bool Tryd.underlying4 h0
  obtain ⟨z1, e1, rfl⟩ := DataW.trod_bool Tryd.underlying4 h1
  simp only [DataW.agg.injEq, List.cons.injEq, DataW.lit.injEq, Lit.bool.injEq, and_true] at hy
  simp at e0 e1
  exact ⟨by rw [e0, hy.1], by rw [e1, hy.2]⟩

def flags : List Value := [.bool false, .bool false, .bool false, .bool true, .bool true, .bool false]

set_option maxRecDepth 100000 in
theorem values_cells {H : Type} {enc : TypeId × Value → H} {w : World} {base fuel : Nat} {sp : Nat → Bool} {held : Bool} {cs : List Value} {p : List MemPlace}
    (h : DataW.trod enc Tryd.prog w base sp held fuel 185 cs = some (Rows.laid_orpiment_object_values, p)) : cs = flags := by
  obtain ⟨xs, m, rfl, hx, hl, hn, hi⟩ := DataW.trod_array Tryd.underlying185 h
  rw [cells185] at hl
  have hd := congrArg Prod.fst hx
  simp only [Rows.laid_orpiment_object_values, DataW.agg.injEq] at hd
  match cs, hl with
  | [c0, c1, c2, c3, c4, c5], _ =>
    match xs, hn with
    | [x0, x1, x2], _ =>
      simp only [List.map_cons, List.map_nil, List.cons.injEq, and_true] at hd
      have i0 := hi 0 (by omega)
      have i1 := hi 1 (by omega)
      have i2 := hi 2 (by omega)
      rw [cells184] at i0 i1 i2
      obtain ⟨rfl, rfl⟩ := pair_cells (b0 := false) (b1 := false) (by simpa using i0) hd.1.symm
      obtain ⟨rfl, rfl⟩ := pair_cells (b0 := false) (b1 := true) (by simpa using i1) hd.2.1.symm
      obtain ⟨rfl, rfl⟩ := pair_cells (b0 := true) (b1 := false) (by simpa using i2) hd.2.2.symm
      rfl

theorem globs {W : World} (h : laidMetH Tryd.prog Rows.objectNilRow.laid W) (ρ : Rho) : Globs D1.E ρ W := by
  obtain ⟨ps, ⟨g', t', cs, fuel, p, q, hg', ht', hvar, hd, _, _⟩, _⟩ := (show laidMet Tryd.prog [("orpiment/object.values", Rows.laid_orpiment_object_values)] W from h)
  obtain rfl := Option.some.inj (gTab.symm.trans hg')
  obtain rfl := Option.some.inj (gTabType.symm.trans ht')
  have hcs := values_cells hd
  intro g vs hg
  simp only [D1.E, envOf, D1.gl, T.get_set, T.get_lf] at hg
  split at hg
  · rename_i e
    subst e
    injection hg with hg
    subst hg
    simp only [World.var?, gTab, Option.bind_some] at hvar
    split at hvar
    · rename_i arr e fz hb
      injection hvar with hvar
      refine ⟨arr, e, fz, flags, hb, by simp [concL, conc, flags], fun j x hj => ?_⟩
      have : arr.toList = flags := by rw [← hcs, hvar]
      rw [← Array.getElem?_toList, this]; exact hj
    · cases hvar
  · cases hg

def rho (n : Int) (s : ByteArray) : Rho
  | 0 => .int .i64 n
  | _ => .string s
theorem rho_plain (n : Int) (s : ByteArray) : Plain (rho n s) := by
  intro i
  cases i <;> exact ⟨(fun cs h => by cases h), (fun cs h => by cases h)⟩

theorem has4 : (D1.E.fns.get 4).isSome = true := by kernel_rfl
theorem run4 : allTrue ((ev D1.E (1000000 + 1)).call 4 [.sym 0, .sym 1] h0) = true := by kernel_rfl

theorem post_here {H : Type} {enc : TypeId × Value → H} {P : Program} {f : Func} {s : ChangeSpec} {apart fresh handsOn again : Bool} {W W' : World} {args : Array Value} {v : Value} {ds gs : List (DataW H)}
    (hW : DataW.Whole enc P f.params.toList s.vars apart W args.toList ds gs [])
    (hres : ∀ (b : Nat) (sp : Nat → Bool) (hd : Bool), DataW.TrodAll enc P W' b sp hd f.resultTypes.toList (v.resultList f.resultTypes.size) (s.fn H (ds ++ gs)).results [])
    (hargs : ∀ sp : Nat → Bool, DataW.TrodAll enc P W' 0 sp true f.params.toList args.toList (s.fn H (ds ++ gs)).args [])
    (hvars : ∀ sp : Nat → Bool, DataW.TrodVars enc P W' sp s.vars (s.fn H (ds ++ gs)).vars [])
    (hk : W.keptBut W' (· ∈ ([] : List MemPlace)))
    (hok : ∀ (j : Nat) (t : TypeId) (r : Value), f.resultTypes[j]? = some t → (v.resultList f.resultTypes.size)[j]? = some r → Value.okWide P W' .any 0 t r) :
    s.post enc P f apart fresh handsOn again W args v W' := by
  refine ⟨ds, gs, [], [], [], [], hW, hres _ _ _, hargs _, hvars _, World.keptBut_mono (fun p hp => by cases hp) hk, fun _ => ?_⟩
  refine ⟨hok, _, _, ([] ++ []) ++ [], ⟨[] ++ [], [], trodAll_append (hargs _) (hres _ _ _), hvars _, rfl, ?_, ?_⟩, ?_⟩
  · intro b off hp; cases hp
  · intro ha; simp
  · intro p hp _; cases hp

set_option maxRecDepth 100000 in
theorem contract (H : Type) (enc : TypeId × Value → H) (W : World) (base : Nat) (args : Array Value) (ds gs : List (DataW H)) (before : List MemPlace)
    (hval : ∀ (j : Nat) t v, Tryd.f4.params[j]? = some t → args[j]? = some v → Value.okWide Tryd.prog W .any base t v)
    (hW : DataW.Whole enc Tryd.prog Tryd.f4.params.toList Rows.objectNilSpec.vars false W args.toList ds gs before) (hL : laidMetH Tryd.prog Rows.objectNilRow.laid W) :
    Calls Tryd.prog 4 args W fun e W' => ∃ v, e = .returned v ∧ Rows.objectNilSpec.post enc Tryd.prog Tryd.f4 false true false false W args v W' := by
  have hW' := hW
  obtain ⟨p, q, hA0, hV, rfl, hfz, hnd⟩ := hW
  have hA : DataW.TrodAll enc Tryd.prog W 0 (fun _ => true) true Tryd.f4.params.toList args.toList ds p := hA0
  rw [Tryd.params4] at hA hval
  obtain ⟨v0, vs0, d0, ds0, p0, q0, hargs, rfl, rfl, h0, r0⟩ := trodAll_cons hA
  obtain ⟨v1, vs1, d1, ds1, p1, q1, hargs1, rfl, rfl, h1, r1⟩ := trodAll_cons r0
  obtain ⟨rfl, rfl, rfl⟩ := trodAll_nil r1
  subst hargs1
  obtain rfl : args = #[v0, v1] := by cases args; simp_all
  obtain ⟨rfl, rfl⟩ := trodVars_none hV
  obtain ⟨n, rfl, rfl, rfl, wn⟩ := open_int Tryd.underlying3 (hval 0 3 v0 rfl rfl) h0
  obtain ⟨s, rfl, rfl, rfl, ws⟩ := Go.ChangeMaps.open_string Tryd.underlying9 (hval 1 9 v1 rfl rfl) h1
  clear hA0
  simp only [List.append_nil] at hW'
  have walk : Calls Tryd.prog 4 #[.int .i64 n, .string s] W fun e w' => e = .returned (.bool true) ∧ Below W.heap.size W w' :=
    calls_true (A := [.int .i64 n, .string s]) D1.Eok (rho_plain n s) 1000000 4 has4 run4 (by simp [concL, conc, rho]) (globs hL _)
  refine walk.mono fun e W' ⟨he, hg⟩ => ?_
  subst he
  exact ⟨_, rfl, post_here hW' (fun _ _ _ => trodAll_cons_mk (shut_bool Tryd.underlying4 _) trodAll_mk0) (fun _ => trodAll_cons_mk (shut_int Tryd.underlying3 wn) (trodAll_cons_mk (Go.ChangeMaps.shut_string Tryd.underlying9 ws) trodAll_mk0)) (fun _ => rfl)
    (hg.frame _) (ok_one (by kernel_rfl) rfl (okWide_bool_mk Tryd.underlying4 _))⟩

/-- A world for the witness: the settled one, the table (block 0) holding what its initialiser lays. -/
noncomputable def laidWorld (os : Os) : World :=
  { World.holding Tryd.prog os ⟨#[], #[], []⟩ with heap := (World.holding Tryd.prog os ⟨#[], #[], []⟩).heap.modify 0 fun
      | .cells _ t frozen => .cells flags.toArray t frozen
      | o => o }
def wargs : Array Value := #[.int .i64 0, .string ByteArray.empty]
theorem laid_met (os : Os) : laidMet Tryd.prog Rows.objectNilRow.laid ((laidWorld os).forCall (fun _ _ => 0) ⟨#[], wargs, []⟩).memory :=
  laidMet_of_run' 8 (by kernel_rfl) (by kernel_rfl)
theorem reads (os : Os) {H : Type} (enc : TypeId × Value → H) : ∃ places, DataW.whole enc Tryd.prog ((laidWorld os).forCall (fun _ _ => 0) ⟨#[], wargs, []⟩).memory Tryd.f4.params.toList Rows.objectNilSpec.vars false wargs.toList 8 = some ([.lit (.int .i64 0), .lit (.string [])], [], places) :=
  ⟨[], by kernel_rfl⟩

set_option maxRecDepth 100000 in
theorem lifted (os : Os) (started : os.Started) (H : Type) (enc : TypeId × Value → H) (F : Stop.Interp) :
    ReturnsInHanded {} Tryd.checked os 4 .any ((OpenSpec.ofChange Rows.objectNilSpec).preRow enc Tryd.prog Tryd.f4 Rows.objectNilRow.domain false Rows.objectNilRow.laid) (((OpenSpec.ofChange Rows.objectNilSpec).at F).post enc Tryd.prog Tryd.f4 false true false false) := by
  obtain ⟨places, hx⟩ := reads os enc
  refine returnsInHanded_of_row (C := Tryd.checked) (s := OpenSpec.ofChange Rows.objectNilSpec) own started (by kernel_rfl) Tryd.func4
    (witness_row_at (enc := enc) (C := Tryd.checked) false (laidWorld os) wargs rfl (by kernel_rfl) (by kernel_rfl) (by kernel_rfl)
      (OpenSpec.preRow_of_cond 8 hx (by kernel_rfl) (fun k hk => by cases hk) (by kernel_rfl) (laid_met os))) ?_
  intro W base args ds gs before hval hW _ _ _ hL _ _
  exact contract H enc W base args ds gs before hval hW hL

theorem said : Rows.ObjectNilSaid :=
  OpenClaim.holds_of_cond 4 Tryd.f4 rfl rfl rfl rfl rfl rfl rfl ⟨rfl, rfl, rfl, rfl, rfl⟩ rfl rfl rfl rfl rfl (by kernel_rfl) Tryd.func4 (by kernel_rfl)
    (of_decide_eq_true (by kernel_rfl)) (by unfold Func.isWrapper; first | (rw [if_pos (by decide +kernel)]; kernel_rfl) | (rw [if_neg (by decide +kernel)]; exact ⟨rfl, rfl⟩))
    (fun os started H enc _ F => by rw [OpenClaim.pre_eq_preRow]; exact lifted os started H enc F)

/-- No parameter wants a stand-in; the program's own looks are off. -/
theorem plain (f : FuncId) (fn : Func) (hf : Tryd.pinned.checked.prog.funcNamed "orpiment/orpimentlaw15.ObjectNil" = some f) (hfn : Tryd.pinned.checked.prog.funcs[f]? = some fn) :
    false = Tryd.pinned.checked.prog.looks [] ∧ ∀ (j : Nat) t, fn.params[j]? = some t → Tryd.pinned.checked.prog.wantsStandIn t = false := by
  obtain rfl : f = 4 := Option.some.inj ((show Tryd.prog.funcNamed "orpiment/orpimentlaw15.ObjectNil" = some 4 by kernel_rfl).symm.trans hf) |>.symm
  obtain rfl : fn = Tryd.f4 := (Option.some.inj (Tryd.func4.symm.trans hfn)).symm
  refine ⟨by kernel_rfl, fun j t ht => ?_⟩
  rw [Tryd.params4] at ht
  have hm := Array.mem_of_getElem? ht
  simp only [List.mem_toArray, List.mem_cons, List.not_mem_nil, or_false] at hm
  rcases hm with rfl | rfl
  · exact (show Tryd.prog.wantsStandIn 3 = false by kernel_rfl)
  · exact (show Tryd.prog.wantsStandIn 9 = false by kernel_rfl)

/-- The card. -/
theorem card : Rows.ObjectNilCardSaid :=
  Claim7.holds_tied_plain_at .later [] _ _ _ _ said (fun _ h => by cases h) (by kernel_rfl) (fun _ h => by cases h) objectNil_row_tie rfl ⟨rfl, rfl⟩ (by kernel_rfl) rfl plain (by kernel_rfl)
end Go.Proofs.YtloblhhnlaaajaaDoor.objectNil
#print axioms Go.Proofs.YtloblhhnlaaajaaDoor.objectNil.card
