/- The laws of this seat, as given. -/
import Derived.Test.YtcngigkkfledgaaGreatM
import Derived.Test.YtcngigkkfledgaaGreatB10
import Derived.Test.YtcngigkkfledgaaGreatG
import Derived.Test.YtcngigkkfledgaaGreatB9
import Derived.Test.YtcngigkkfledgaaGreatChecked
import Derived.Test.YtcngigkkfledgaaGreatRows
import Derived.WalkKit
import Derived.ProofKit
import Derived.OpenShut
import Derived.ChangeMaps5
import Derived.Deep.DeepHandedRow
set_option linter.unusedVariables false
set_option linter.unusedSimpArgs false
set_option linter.defProp false
namespace Go.Proofs.ZP
open Go Go.Ev Go.RowKit Go.ChangeShapes Go.WideShapes Go.ChangeAt
open Go.Proofs

theorem E_globs (g : T (List V)) : (E g).globs = g := by unfold E envOf2; rfl
theorem own : ownKnob Tryz.prog.godebug = none := by kernel_rfl
theorem laidOut : laidOutB Tryz.prog = true := by kernel_rfl
theorem cells2 : Tryz.prog.cellsOf 2 = 1 := by kernel_rfl
theorem cells3 : Tryz.prog.cellsOf 3 = 1 := by kernel_rfl
theorem cells5 : Tryz.prog.cellsOf 5 = 1 := by kernel_rfl
theorem cells9 : Tryz.prog.cellsOf 9 = 1 := by kernel_rfl
theorem cells22 : Tryz.prog.cellsOf 22 = 1 := by kernel_rfl
theorem cells23 : Tryz.prog.cellsOf 23 = 1 := by kernel_rfl
theorem cells25 : Tryz.prog.cellsOf 25 = 5 := by kernel_rfl
theorem cells26 : Tryz.prog.cellsOf 26 = 1 := by kernel_rfl
theorem cells46 : Tryz.prog.cellsOf 46 = 2 := by kernel_rfl
theorem bytes2 : Tryz.prog.bytesOf 2 = 8 := by kernel_rfl
theorem bytes5 : Tryz.prog.bytesOf 5 = 1 := by kernel_rfl
theorem bytes46 : Tryz.prog.bytesOf 46 = 32 := by kernel_rfl

theorem list2 {α : Type} {l : List α} (h : l.length = 2) : ∃ a b, l = [a, b] := by
  match l, h with
  | [a, b], _ => exact ⟨a, b, rfl⟩
theorem list5 {α : Type} {l : List α} (h : l.length = 5) : ∃ a b c d e, l = [a, b, c, d, e] := by
  match l, h with
  | [a, b, c, d, e], _ => exact ⟨a, b, c, d, e, rfl⟩

section
variable {H : Type} {enc : TypeId × Value → H} {W : World} {base : Nat} {sp : Nat → Bool} {held : Bool}

/-- A part of memory, read. -/
structure MemIn (W : World) (q : Mem × V) : Prop where
  addr : In64 q.1.addr
  len : q.1.data.length ≤ reachBytes
  bs : ∀ h, Bs (gW W) h q.2 q.1.data
  own : ∀ b o n k, q.2 ≠ .slice b o n k

theorem mem_in {n : Nat} {cs : List Value} {y : DataW H × List MemPlace} (h : DataW.trod enc Tryz.prog W base sp held n 46 cs = some y) (hw : Wts Tryz.prog 46 y.1) :
    ∃ q, MemIn W q ∧ ([i64 q.1.addr, q.2] : List V).length = 2 ∧ ∀ (j : Nat) c, cs[j]? = some c → ∃ v, ([i64 q.1.addr, q.2] : List V)[j]? = some v ∧ AbsC c v := by
  obtain ⟨xs, m, rfl, rfl, hl, hn, hi⟩ := DataW.trod_struct Tryz.underlying46 h
  rw [cells46] at hl
  obtain ⟨c0, c1, rfl⟩ := list2 hl
  obtain ⟨x0, x1, rfl⟩ := list2 hn
  have i0 := fld hi 0 2 0 rfl rfl rfl cells2
  have i1 := fld hi 1 26 1 rfl rfl rfl cells26
  obtain ⟨a, e0, _, ha⟩ := DataW.trod_int Tryz.underlying2 (show DataW.trod enc Tryz.prog W base sp held m 2 [c0] = some x0 from i0)
  obtain ⟨c, v, xs, e1, hv, hlen, hs, ho⟩ := bytesW (E := E (gW W)) (E_globs _) Tryz.underlying26 Tryz.underlying5 cells5 (show DataW.trod enc Tryz.prog W base sp held m 26 [c1] = some x1 from i1) (wts_field hw Tryz.underlying46 (j := 1) rfl rfl)
  injection e0 with e0
  injection e1 with e1
  subst e0 e1
  rw [bytes5, Nat.mul_one] at hlen
  refine ⟨(⟨a, xs⟩, v), ⟨wf_i64 ha, hlen, hs, ho⟩, rfl, fun j c hj => ?_⟩
  match j, hj with
  | 0, hj => injection hj with hj; subst hj; exact ⟨_, rfl, AbsC.int⟩
  | 1, hj => injection hj with hj; subst hj; exact ⟨_, rfl, hv⟩
  | j + 2, hj => simp at hj

/-- A core, read. -/
theorem core_in {n : Nat} {cs : List Value} {y : DataW H × List MemPlace} (h : DataW.trod enc Tryz.prog W base sp held n 25 cs = some y) (hw : Wts Tryz.prog 25 y.1) :
    ∃ (c : CoreD) (rv mv : V) (L : List (Mem × V)), CoreOk c ∧ Sizes c ∧ (∀ ρ μ, concL ρ μ [i64 c.pid, i64 c.sig, .str c.name, rv, mv] = some cs) ∧ ∀ hp K, Co (gW W) hp K (.agg [i64 c.pid, i64 c.sig, .str c.name, rv, mv]) c rv mv L := by
  obtain ⟨xs, m, rfl, rfl, hl, hn, hi⟩ := DataW.trod_struct Tryz.underlying25 h
  rw [cells25] at hl
  obtain ⟨c0, c1, c2, c3, c4, rfl⟩ := list5 hl
  obtain ⟨x0, x1, x2, x3, x4, rfl⟩ := list5 hn
  have i0 := fld hi 0 3 0 rfl rfl rfl cells3
  have i1 := fld hi 1 3 1 rfl rfl rfl cells3
  have i2 := fld hi 2 9 2 rfl rfl rfl cells9
  have i3 := fld hi 3 22 3 rfl rfl rfl cells22
  have i4 := fld hi 4 23 4 rfl rfl rfl cells23
  obtain ⟨pid, e0, _, hpid⟩ := DataW.trod_int Tryz.underlying3 (show DataW.trod enc Tryz.prog W base sp held m 3 [c0] = some x0 from i0)
  obtain ⟨sig, e1, _, hsig⟩ := DataW.trod_int Tryz.underlying3 (show DataW.trod enc Tryz.prog W base sp held m 3 [c1] = some x1 from i1)
  obtain ⟨nm, e2, _, _⟩ := DataW.trod_string Tryz.underlying9 (show DataW.trod enc Tryz.prog W base sp held m 9 [c2] = some x2 from i2)
  obtain ⟨c3', rv, rs, e3, hrv, hrs, _, hrl, hro⟩ := numsW (E := E (gW W)) (E_globs _) Tryz.underlying22 Tryz.underlying2 cells2 (show DataW.trod enc Tryz.prog W base sp held m 22 [c3] = some x3 from i3) (wts_field hw Tryz.underlying25 (j := 3) rfl rfl)
  obtain ⟨c4', mv, L, e4, hmv, hL, hlen, hms, hmo⟩ := sliceW (α := Mem × V) (f := fun q => [i64 q.1.addr, q.2]) (Pr := MemIn W) (E := E (gW W)) (E_globs _) Tryz.underlying23 cells46 (by decide) (fun n cs' y hy hw => mem_in hy hw) (show DataW.trod enc Tryz.prog W base sp held m 23 [c4] = some x4 from i4) (wts_field hw Tryz.underlying25 (j := 4) rfl rfl)
  injection e0 with e0
  injection e1 with e1
  injection e2 with e2
  injection e3 with e3
  injection e4 with e4
  subst e0 e1 e2 e3 e4
  rw [bytes46, reach_eq] at hlen
  refine ⟨⟨pid, sig, nm.data.toList, rs, L.map (·.1)⟩, rv, mv, L, ⟨wf_i64 hpid, wf_i64 hsig, hrs, fun q hq => ?_⟩, ⟨?_, fun q hq => ?_⟩, fun ρ μ => ?_, fun hp K => ⟨rfl, hrl hp, ⟨hms hp, fun q hq => (hL q hq).bs hp⟩, rfl, ?_, ?_, fun q hq => ?_⟩⟩
  · obtain ⟨x, hx, rfl⟩ := List.mem_map.1 hq
    exact (hL x hx).addr
  · show (L.map (·.1)).length < _
    rw [List.length_map]; omega
  · obtain ⟨x, hx, rfl⟩ := List.mem_map.1 hq
    have := (hL x hx).len
    rw [reach_eq] at this; omega
  · exact concL_mk rfl (concL_mk rfl (concL_mk rfl (concL_mk (hrv.conc ρ μ) (concL_mk (hmv.conc ρ μ) rfl))))
  · exact fun b o n k e => absurd e (hro b o n k)
  · exact fun b o n k e => absurd e (hmo b o n k)
  · exact fun b o n k e => absurd e ((hL q hq).own b o n k)
end
end Go.Proofs.ZP


namespace Go.Proofs.YtcngigkkfledgaaGreat.processCores
open Go Go.Ev Go.RowKit Go.ChangeShapes Go.WideShapes Go.ChangeAt Go.Proofs Go.Proofs.ZP

theorem has (g : T (List V)) : ((E g).fns.get 3).isSome = true := by rw [fn3]; rfl
theorem reads : ∀ t ∈ Tryz.f3.params.toList, Tryz.prog.readableRec t = true ∧ t < Tryz.prog.types.size := by
  rw [Tryz.params3]
  intro t ht
  simp only [List.mem_cons, List.not_mem_nil, or_false] at ht
  rcases ht with rfl | rfl
  · exact ⟨by kernel_rfl, of_decide_eq_true (by kernel_rfl)⟩
  · exact ⟨by kernel_rfl, of_decide_eq_true (by kernel_rfl)⟩
theorem resTy : Tryz.f3.resultTypes = #[4] := by kernel_rfl

set_option maxRecDepth 100000 in
theorem contract (H : Type) (enc : TypeId × Value → H) (W : World) (base : Nat) (args : Array Value) (ds gs : List (DataW H)) (before : List MemPlace)
    (hval : ∀ (j : Nat) t v, Tryz.f3.params[j]? = some t → args[j]? = some v → Value.okWide Tryz.prog W .any base t v)
    (hW : DataW.Whole enc Tryz.prog Tryz.f3.params.toList Rows.processCoresSpec.vars false W args.toList ds gs before)
    (hsz : (DataW.weightsEach Tryz.prog (Tryz.f3.params.toList ++ (OpenSpec.ofChange Rows.processCoresSpec).bare.plain.varTypes Tryz.prog) (ds ++ gs)).all (· ≤ reachBytes) = true) :
    Calls Tryz.prog 3 args W fun e W' => ∃ v, e = .returned v ∧ Rows.processCoresSpec.post enc Tryz.prog Tryz.f3 false true false false W args v W' := by
  have hW' := hW
  obtain ⟨p, q, hA0, hV, rfl, hfz, hnd⟩ := hW
  have hA : DataW.TrodAll enc Tryz.prog W 0 (fun _ => true) true Tryz.f3.params.toList args.toList ds p := hA0
  rw [Tryz.params3] at hA hval hsz
  obtain ⟨v0, vs0, d0, ds0, p0, q0, hargs, rfl, rfl, ⟨n0, h0⟩, r0⟩ := trodAll_cons hA
  obtain ⟨v1, vs1, d1, ds1, p1, q1, hargs1, rfl, rfl, h1, r1⟩ := trodAll_cons r0
  obtain ⟨rfl, rfl, rfl⟩ := trodAll_nil r1
  subst hargs1
  obtain rfl : args = #[v0, v1] := by cases args; simp_all
  obtain ⟨rfl, rfl⟩ := trodVars_none hV
  obtain ⟨n1, h1⟩ := h1
  obtain ⟨cs0, rfl, _⟩ := okWide_struct Tryz.underlying25 (hval 0 25 v0 rfl rfl)
  obtain ⟨a1, l1, k1, rfl⟩ := okWide_slice Tryz.underlying26 (hval 1 26 v1 rfl rfl)
  obtain ⟨c, rv, mv, L, ok, hz, hconc, hco⟩ := core_in h0 (wts_each hsz (j := 0) rfl rfl)
  obtain ⟨c1, bv, xs, e1, hbv, hlen, hbs, hbo⟩ := bytesW (E := E (gW W)) (E_globs _) Tryz.underlying26 Tryz.underlying5 cells5 h1 (wts_each hsz (j := 1) rfl rfl)
  obtain rfl : Value.slice a1 l1 k1 = c1 := by
    have : [Value.slice a1 l1 k1] = [c1] := e1
    injection this
  rw [bytes5, Nat.mul_one, reach_eq] at hlen
  have hc0 : conc (rhoW W) (fun _ => none) (.agg [i64 c.pid, i64 c.sig, .str c.name, rv, mv]) = some (.agg cs0) := by
    have := hconc (rhoW W) (fun _ => none)
    simp only [conc, this]
    rfl
  have walk : Calls Tryz.prog 3 #[.agg cs0, .slice a1 l1 k1] W fun e w' => e = .returned (.bool true) ∧ Below W.heap.size W w' :=
    calls_of (ρ := rhoW W) (A := [.agg cs0, .slice a1 l1 k1]) (Eok (gW W)) (rhoW_plain W) (has _) (cores_ok (hco _ _) (hbs _) (fun b o n k e => absurd e (hbo b o n k)) hz (by omega)) (concL_mk hc0 (concL_mk (hbv.conc _ _) rfl)) (by
      have := globsW (E := E (gW W)) W
      have e : ({ E (gW W) with globs := gW W } : Env) = E (gW W) := by unfold E envOf2; rfl
      rwa [e] at this)
  refine walk.mono fun e W' ⟨he, hb⟩ => ?_
  subst he
  exact ⟨_, rfl, post_true laidOut reads rfl resTy Tryz.underlying4 hW' rfl hb⟩

def wargs : Array Value := #[.agg #[.int .i64 0, .int .i64 0, .string ByteArray.empty, .slice none 0 0, .slice none 0 0], .slice none 0 0]
theorem read0 (os : Os) {H : Type} (enc : TypeId × Value → H) : ∃ places, DataW.whole enc Tryz.prog ((World.holding Tryz.prog os ⟨#[], #[], []⟩).forCall (fun _ _ => 0) ⟨#[], wargs, []⟩).memory Tryz.f3.params.toList Rows.processCoresSpec.vars false wargs.toList 8 = some ([.agg [.lit (.int .i64 0), .lit (.int .i64 0), .lit (.string []), .nil, .nil], .nil], [], places) :=
  ⟨[], by kernel_rfl⟩

set_option maxRecDepth 100000 in
theorem lifted (os : Os) (started : os.Started) (H : Type) (enc : TypeId × Value → H) (F : Stop.Interp) :
    ReturnsInHanded {} Tryz.checked os 3 .any ((OpenSpec.ofChange Rows.processCoresSpec).preRow enc Tryz.prog Tryz.f3 Rows.processCoresRow.domain false Rows.processCoresRow.laid) (((OpenSpec.ofChange Rows.processCoresSpec).at F).post enc Tryz.prog Tryz.f3 false true false false) := by
  obtain ⟨places, hx⟩ := read0 os enc
  refine returnsInHanded_of_row (C := Tryz.checked) (s := OpenSpec.ofChange Rows.processCoresSpec) own started (by kernel_rfl) Tryz.func3
    (witness_row_at (enc := enc) (C := Tryz.checked) false (World.holding Tryz.prog os ⟨#[], #[], []⟩) wargs rfl (by kernel_rfl) (by kernel_rfl) (by kernel_rfl)
      (OpenSpec.preRow_of_cond 8 hx (by kernel_rfl) (fun k hk => by cases hk) (by kernel_rfl) ⟨[], rfl, List.nodup_nil, fun _ _ h => by cases h⟩)) ?_
  intro W base args ds gs before hval hW _ _ hsz _ _ _
  exact contract H enc W base args ds gs before hval hW hsz

theorem said : Rows.ProcessCoresSaid :=
  OpenClaim.holds_of_cond 3 Tryz.f3 rfl rfl rfl rfl rfl rfl rfl ⟨rfl, rfl, rfl, rfl, rfl⟩ rfl rfl rfl rfl rfl (by kernel_rfl) Tryz.func3 (by kernel_rfl)
    (of_decide_eq_true (by kernel_rfl)) (by unfold Func.isWrapper; first | (rw [if_pos (by decide +kernel)]; kernel_rfl) | (rw [if_neg (by decide +kernel)]; exact ⟨rfl, rfl⟩))
    (fun os started H enc _ F => by rw [OpenClaim.pre_eq_preRow]; exact lifted os started H enc F)
end Go.Proofs.YtcngigkkfledgaaGreat.processCores

namespace Go.Proofs.YtcngigkkfledgaaGreat.processDamage
open Go Go.Ev Go.RowKit Go.ChangeShapes Go.WideShapes Go.ChangeAt Go.Proofs Go.Proofs.ZP

theorem has (g : T (List V)) : ((E g).fns.get 4).isSome = true := by rw [fn4]; rfl
theorem reads : ∀ t ∈ Tryz.f4.params.toList, Tryz.prog.readableRec t = true ∧ t < Tryz.prog.types.size := by
  rw [Tryz.params4]
  intro t ht
  simp only [List.mem_cons, List.not_mem_nil, or_false] at ht
  rcases ht with rfl | rfl | rfl
  · exact ⟨by kernel_rfl, of_decide_eq_true (by kernel_rfl)⟩
  · exact ⟨by kernel_rfl, of_decide_eq_true (by kernel_rfl)⟩
  · exact ⟨by kernel_rfl, of_decide_eq_true (by kernel_rfl)⟩
theorem resTy : Tryz.f4.resultTypes = #[4] := by kernel_rfl

set_option maxRecDepth 100000 in
theorem contract (H : Type) (enc : TypeId × Value → H) (W : World) (base : Nat) (args : Array Value) (ds gs : List (DataW H)) (before : List MemPlace)
    (hval : ∀ (j : Nat) t v, Tryz.f4.params[j]? = some t → args[j]? = some v → Value.okWide Tryz.prog W .any base t v)
    (hW : DataW.Whole enc Tryz.prog Tryz.f4.params.toList Rows.processDamageSpec.vars false W args.toList ds gs before)
    (hsz : (DataW.weightsEach Tryz.prog (Tryz.f4.params.toList ++ (OpenSpec.ofChange Rows.processDamageSpec).bare.plain.varTypes Tryz.prog) (ds ++ gs)).all (· ≤ reachBytes) = true) :
    Calls Tryz.prog 4 args W fun e W' => ∃ v, e = .returned v ∧ Rows.processDamageSpec.post enc Tryz.prog Tryz.f4 false true false false W args v W' := by
  have hW' := hW
  obtain ⟨p, q, hA0, hV, rfl, hfz, hnd⟩ := hW
  have hA : DataW.TrodAll enc Tryz.prog W 0 (fun _ => true) true Tryz.f4.params.toList args.toList ds p := hA0
  rw [Tryz.params4] at hA hval hsz
  obtain ⟨v0, vs0, d0, ds0, p0, q0, hargs, rfl, rfl, ⟨n0, h0⟩, r0⟩ := trodAll_cons hA
  obtain ⟨v1, vs1, d1, ds1, p1, q1, hargs1, rfl, rfl, h1, r1⟩ := trodAll_cons r0
  obtain ⟨v2, vs2, d2, ds2, p2, q2, hargs2, rfl, rfl, h2, r2⟩ := trodAll_cons r1
  obtain ⟨rfl, rfl, rfl⟩ := trodAll_nil r2
  subst hargs2
  subst hargs1
  obtain rfl : args = #[v0, v1, v2] := by cases args; simp_all
  obtain ⟨rfl, rfl⟩ := trodVars_none hV
  obtain ⟨cs0, rfl, _⟩ := okWide_struct Tryz.underlying25 (hval 0 25 v0 rfl rfl)
  obtain ⟨n1, rfl, rfl, rfl, w1⟩ := open_int Tryz.underlying43 (hval 1 43 v1 rfl rfl) h1
  obtain ⟨n2, rfl, rfl, rfl, w2⟩ := open_int Tryz.underlying5 (hval 2 5 v2 rfl rfl) h2
  obtain ⟨c, rv, mv, L, ok, hz, hconc, hco⟩ := core_in h0 (wts_each hsz (j := 0) rfl rfl)
  have b1 := wf_u16 w1
  have b2 := wf_u8 w2
  have hc0 : conc (rhoW W) (fun _ => none) (.agg [i64 c.pid, i64 c.sig, .str c.name, rv, mv]) = some (.agg cs0) := by
    have := hconc (rhoW W) (fun _ => none)
    simp only [conc, this]
    rfl
  have e1 : n1 = ((n1.toNat : Nat) : Int) := by omega
  have e2 : n2 = (((UInt8.ofNat n2.toNat).toNat : Nat) : Int) := by rw [UInt8.toNat_ofNat']; omega
  have walk : Calls Tryz.prog 4 #[.agg cs0, .int .u16 n1, .int .u8 n2] W fun e w' => e = .returned (.bool true) ∧ Below W.heap.size W w' :=
    by
      rw [e1, e2]
      refine calls_of (ρ := rhoW W) (A := [.agg cs0, .int .u16 (n1.toNat : Int), .int .u8 ((UInt8.ofNat n2.toNat).toNat : Int)]) (Eok (gW W)) (rhoW_plain W) (has _) (damage_ok (hco _ _) ok hz (by omega)) (concL_mk hc0 (concL_mk rfl (concL_mk rfl rfl))) ?_
      have := globsW (E := E (gW W)) W
      have e : ({ E (gW W) with globs := gW W } : Env) = E (gW W) := by unfold E envOf2; rfl
      rwa [e] at this
  refine walk.mono fun e W' ⟨he, hb⟩ => ?_
  subst he
  exact ⟨_, rfl, post_true laidOut reads rfl resTy Tryz.underlying4 hW' rfl hb⟩

def wargs : Array Value := #[.agg #[.int .i64 0, .int .i64 0, .string ByteArray.empty, .slice none 0 0, .slice none 0 0], .int .u16 0, .int .u8 0]
theorem read0 (os : Os) {H : Type} (enc : TypeId × Value → H) : ∃ places, DataW.whole enc Tryz.prog ((World.holding Tryz.prog os ⟨#[], #[], []⟩).forCall (fun _ _ => 0) ⟨#[], wargs, []⟩).memory Tryz.f4.params.toList Rows.processDamageSpec.vars false wargs.toList 8 = some ([.agg [.lit (.int .i64 0), .lit (.int .i64 0), .lit (.string []), .nil, .nil], .lit (.int .u16 0), .lit (.int .u8 0)], [], places) :=
  ⟨[], by kernel_rfl⟩

set_option maxRecDepth 100000 in
theorem lifted (os : Os) (started : os.Started) (H : Type) (enc : TypeId × Value → H) (F : Stop.Interp) :
    ReturnsInHanded {} Tryz.checked os 4 .any ((OpenSpec.ofChange Rows.processDamageSpec).preRow enc Tryz.prog Tryz.f4 Rows.processDamageRow.domain false Rows.processDamageRow.laid) (((OpenSpec.ofChange Rows.processDamageSpec).at F).post enc Tryz.prog Tryz.f4 false true false false) := by
  obtain ⟨places, hx⟩ := read0 os enc
  refine returnsInHanded_of_row (C := Tryz.checked) (s := OpenSpec.ofChange Rows.processDamageSpec) own started (by kernel_rfl) Tryz.func4
    (witness_row_at (enc := enc) (C := Tryz.checked) false (World.holding Tryz.prog os ⟨#[], #[], []⟩) wargs rfl (by kernel_rfl) (by kernel_rfl) (by kernel_rfl)
      (OpenSpec.preRow_of_cond 8 hx (by kernel_rfl) (fun k hk => by cases hk) (by kernel_rfl) ⟨[], rfl, List.nodup_nil, fun _ _ h => by cases h⟩)) ?_
  intro W base args ds gs before hval hW _ _ hsz _ _ _
  exact contract H enc W base args ds gs before hval hW hsz

theorem said : Rows.ProcessDamageSaid :=
  OpenClaim.holds_of_cond 4 Tryz.f4 rfl rfl rfl rfl rfl rfl rfl ⟨rfl, rfl, rfl, rfl, rfl⟩ rfl rfl rfl rfl rfl (by kernel_rfl) Tryz.func4 (by kernel_rfl)
    (of_decide_eq_true (by kernel_rfl)) (by unfold Func.isWrapper; first | (rw [if_pos (by decide +kernel)]; kernel_rfl) | (rw [if_neg (by decide +kernel)]; exact ⟨rfl, rfl⟩))
    (fun os started H enc _ F => by rw [OpenClaim.pre_eq_preRow]; exact lifted os started H enc F)
end Go.Proofs.YtcngigkkfledgaaGreat.processDamage
