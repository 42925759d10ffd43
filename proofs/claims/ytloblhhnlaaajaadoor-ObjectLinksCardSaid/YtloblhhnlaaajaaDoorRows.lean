/-
  NARROWER THAN 'FOR EVERY INPUT', by the rows' own cells (each row's printed sentence says how): ObjectMoves: laid · ObjectNil: laid · ObjectLinks: laid · ObjectDamage: laid · ObjectLazy: laid.
  DERIVED. THE GIVEN ROWS OF THIS SEAT. 5 by the template 'for every input the law returns true; each argument reads behind the call as it read before'; 0 by the template 'total and deterministic' (their statements: YtloblhhnlaaajaaDoorTotals.lean).
  GIVEN WITH THE SEED: the statements are not yours to turn. If you find one false, say at which input.
  Laid BY PROGRAM, IN A SANDBOX (cutbox-rows.mjs): the forced cells as the released guide's own fill.sh prints them over the translation fda31af0bd9526ee… (all of the seat's roots in one cut). By AI agents, Wed Nov 11 2026. No macro, syntax, notation, axiom, sorry.
-/
import Derived.Test.YtloblhhnlaaajaaDoorChecked
import GoSem.Claim
import GoSem.ClaimJoined
import GoSem.ClaimMapViews
import Derived.JoinedTies
import Derived.KernelRfl
namespace Go.Proofs.YtloblhhnlaaajaaDoor
/- THE CELL 'sum', in the pinned program and in every row, IS THE sha256 OF THE DUMP (.gsa) THAT YtloblhhnlaaajaaDoorProg.lean LOADS. Nothing in Lean hashes anything: it is a label: what it is worth is what the hold of that sum in a sandbox is worth. -/
noncomputable def Tryd.pinned : Pinned := { name := "ytloblhhnlaaajaadoor", sum := "fda31af0bd9526eef0b42245c163591a68c1dddbcf708bd51767623afb99de06", checked := Tryd.checked }
namespace Rows
def none {H : Type} : Left H := { results := [], args := [] }

/- WHAT THE LISTED PACKAGE-LEVEL VARIABLES READ AS WHEN THE CALL BEGINS. Each datum BY PROGRAM (the guide's laid-datum.mjs) off the statement by which the dump's own 'gosem.cut.vars' lays the variable. In a bare row this is a premise. The card (YtloblhhnlaaajaaDoorCards.lean) ties it to the program's text. -/
def laid_orpiment_object_values {H : Type} : DataW H := .agg [.agg [.lit (.bool false), .lit (.bool false)], .agg [.lit (.bool false), .lit (.bool true)], .agg [.lit (.bool true), .lit (.bool false)]]
def laid_orpiment_object_magics {H : Type} : DataW H := .agg [.agg [.lit (.int .u8 79), .lit (.int .u8 66), .lit (.int .u8 74), .lit (.int .u8 49)], .agg [.lit (.int .u8 73), .lit (.int .u8 77), .lit (.int .u8 71), .lit (.int .u8 49)]]

/-- 'orpimentlaw15.ObjectMoves': WHATEVER THE INPUT: true; the input reads as it did. -/
def objectMovesSpec : ChangeSpec := { name := "objectMoves", fn := fun _ => fun
  | [d1, d2] => { results := [.lit (.bool true)], args := [d1, d2] }
  | _ => none }
def objectMovesRow : OpenClaim := { program := "ytloblhhnlaaajaadoor", sum := "fda31af0bd9526eef0b42245c163591a68c1dddbcf708bd51767623afb99de06", func := "orpiment/orpimentlaw15.ObjectMoves", spec := "objectMoves", unfollowed := true, recurses := true, named := ["orpiment/object.values"], apart := false, laid := [("orpiment/object.values", laid_orpiment_object_values)] }
def ObjectMovesSaid : Prop := objectMovesRow.holds Tryd.pinned (OpenSpec.ofChange objectMovesSpec)

/-- ITS FALSE NEIGHBOUR: 'it returns false'. Refute it at one input. -/
def objectMovesWrong : ChangeSpec := { name := "objectMoves", fn := fun _ => fun
  | [d1, d2] => { results := [.lit (.bool false)], args := [d1, d2] }
  | _ => none }
def ObjectMovesWrongFalsely : Prop := objectMovesRow.holds Tryd.pinned (OpenSpec.ofChange objectMovesWrong)

/-- 'orpimentlaw15.ObjectNil': WHATEVER THE INPUT: true; the input reads as it did. -/
def objectNilSpec : ChangeSpec := { name := "objectNil", fn := fun _ => fun
  | [d1, d2] => { results := [.lit (.bool true)], args := [d1, d2] }
  | _ => none }
def objectNilRow : OpenClaim := { program := "ytloblhhnlaaajaadoor", sum := "fda31af0bd9526eef0b42245c163591a68c1dddbcf708bd51767623afb99de06", func := "orpiment/orpimentlaw15.ObjectNil", spec := "objectNil", unfollowed := true, recurses := true, named := ["orpiment/object.values"], apart := false, laid := [("orpiment/object.values", laid_orpiment_object_values)] }
def ObjectNilSaid : Prop := objectNilRow.holds Tryd.pinned (OpenSpec.ofChange objectNilSpec)

/-- ITS FALSE NEIGHBOUR: 'it returns false'. Refute it at one input. -/
def objectNilWrong : ChangeSpec := { name := "objectNil", fn := fun _ => fun
  | [d1, d2] => { results := [.lit (.bool false)], args := [d1, d2] }
  | _ => none }
def ObjectNilWrongFalsely : Prop := objectNilRow.holds Tryd.pinned (OpenSpec.ofChange objectNilWrong)

/-- 'orpimentlaw15.ObjectLinks': WHATEVER THE INPUT: true; the input reads as it did. -/
def objectLinksSpec : ChangeSpec := { name := "objectLinks", fn := fun _ => fun
  | [d1, d2] => { results := [.lit (.bool true)], args := [d1, d2] }
  | _ => none }
def objectLinksRow : OpenClaim := { program := "ytloblhhnlaaajaadoor", sum := "fda31af0bd9526eef0b42245c163591a68c1dddbcf708bd51767623afb99de06", func := "orpiment/orpimentlaw15.ObjectLinks", spec := "objectLinks", unfollowed := true, recurses := true, named := ["orpiment/object.values", "orpiment/object.magics"], apart := false, laid := [("orpiment/object.magics", laid_orpiment_object_magics), ("orpiment/object.values", laid_orpiment_object_values)] }
def ObjectLinksSaid : Prop := objectLinksRow.holds Tryd.pinned (OpenSpec.ofChange objectLinksSpec)

/-- ITS FALSE NEIGHBOUR: 'it returns false'. Refute it at one input. -/
def objectLinksWrong : ChangeSpec := { name := "objectLinks", fn := fun _ => fun
  | [d1, d2] => { results := [.lit (.bool false)], args := [d1, d2] }
  | _ => none }
def ObjectLinksWrongFalsely : Prop := objectLinksRow.holds Tryd.pinned (OpenSpec.ofChange objectLinksWrong)

/-- 'orpimentlaw15.ObjectDamage': WHATEVER THE INPUT: true; the input reads as it did. -/
def objectDamageSpec : ChangeSpec := { name := "objectDamage", fn := fun _ => fun
  | [d1, d2, d3] => { results := [.lit (.bool true)], args := [d1, d2, d3] }
  | _ => none }
def objectDamageRow : OpenClaim := { program := "ytloblhhnlaaajaadoor", sum := "fda31af0bd9526eef0b42245c163591a68c1dddbcf708bd51767623afb99de06", func := "orpiment/orpimentlaw15.ObjectDamage", spec := "objectDamage", unfollowed := true, recurses := true, named := ["orpiment/object.values", "orpiment/object.magics"], apart := false, laid := [("orpiment/object.magics", laid_orpiment_object_magics), ("orpiment/object.values", laid_orpiment_object_values)] }
def ObjectDamageSaid : Prop := objectDamageRow.holds Tryd.pinned (OpenSpec.ofChange objectDamageSpec)

/-- ITS FALSE NEIGHBOUR: 'it returns false'. Refute it at one input. -/
def objectDamageWrong : ChangeSpec := { name := "objectDamage", fn := fun _ => fun
  | [d1, d2, d3] => { results := [.lit (.bool false)], args := [d1, d2, d3] }
  | _ => none }
def ObjectDamageWrongFalsely : Prop := objectDamageRow.holds Tryd.pinned (OpenSpec.ofChange objectDamageWrong)

/-- 'orpimentlaw15.ObjectLazy': WHATEVER THE INPUT: true; the input reads as it did. -/
def objectLazySpec : ChangeSpec := { name := "objectLazy", fn := fun _ => fun
  | [d1, d2] => { results := [.lit (.bool true)], args := [d1, d2] }
  | _ => none }
def objectLazyRow : OpenClaim := { program := "ytloblhhnlaaajaadoor", sum := "fda31af0bd9526eef0b42245c163591a68c1dddbcf708bd51767623afb99de06", func := "orpiment/orpimentlaw15.ObjectLazy", spec := "objectLazy", unfollowed := true, recurses := true, named := ["orpiment/object.values"], apart := false, laid := [("orpiment/object.values", laid_orpiment_object_values)] }
def ObjectLazySaid : Prop := objectLazyRow.holds Tryd.pinned (OpenSpec.ofChange objectLazySpec)

/-- ITS FALSE NEIGHBOUR: 'it returns false'. Refute it at one input. -/
def objectLazyWrong : ChangeSpec := { name := "objectLazy", fn := fun _ => fun
  | [d1, d2] => { results := [.lit (.bool false)], args := [d1, d2] }
  | _ => none }
def ObjectLazyWrongFalsely : Prop := objectLazyRow.holds Tryd.pinned (OpenSpec.ofChange objectLazyWrong)

/- THE SECOND FORM. 'bulk': how many values and letters a reading holds, each counted each time it is reached (what is shared counts as often as it is met; a slice's spare places count too). A statement '..UptoSaid' is the law's where the arguments, and the package variables that the reading takes, are together of bulk at most 1048576: NARROWER than '..Said'. Prove '..Said' where nothing that the law and all that it calls make is longer than what came in: it says more and counts as full. Else prove '..UptoSaid'. A law counts once. -/
mutual
def uptoBulk {H : Type} : DataW H → Nat
  | .lit (.string bytes) => bytes.length + 1
  | .lit _ => 1
  | .nil => 1
  | .ptr d => uptoBulk d + 1
  | .slice elems spare => uptoBulkAll elems + uptoBulkAll spare + 1
  | .agg parts => uptoBulkAll parts + 1
  | .iface _ d => uptoBulk d + 1
  | .map entries => uptoBulkEntries entries + 1
  | .held _ => 1
def uptoBulkAll {H : Type} : List (DataW H) → Nat
  | [] => 0
  | d :: r => uptoBulk d + uptoBulkAll r
def uptoBulkEntries {H : Type} : List (Lit × DataW H) → Nat
  | [] => 0
  | x :: r => uptoBulkEntry x + uptoBulkEntries r
def uptoBulkEntry {H : Type} : Lit × DataW H → Nat
  | (.string bytes, d) => bytes.length + uptoBulk d + 1
  | (_, d) => uptoBulk d + 1
 end
def uptoSmall : (H : Type) → List (DataW H) → Bool := fun _ ds => decide (uptoBulkAll ds ≤ 1048576)
def OpenSpec.upto (s : _root_.Go.ChangeSpec) : _root_.Go.OpenSpec := { _root_.Go.OpenSpec.ofChange s with cond := some uptoSmall }

/-- 'orpimentlaw15.ObjectMoves', WHERE WHAT IT READS IS OF BULK AT MOST 1048576: true; the input reads as it did. -/
def objectMovesUptoRow : OpenClaim := { program := "ytloblhhnlaaajaadoor", sum := "fda31af0bd9526eef0b42245c163591a68c1dddbcf708bd51767623afb99de06", func := "orpiment/orpimentlaw15.ObjectMoves", spec := "objectMoves", unfollowed := true, recurses := true, named := ["orpiment/object.values"], apart := false, laid := [("orpiment/object.values", laid_orpiment_object_values)], narrowed := true }
def ObjectMovesUptoSaid : Prop := objectMovesUptoRow.holds Tryd.pinned (OpenSpec.upto objectMovesSpec)

/-- 'orpimentlaw15.ObjectNil', WHERE WHAT IT READS IS OF BULK AT MOST 1048576: true; the input reads as it did. -/
def objectNilUptoRow : OpenClaim := { program := "ytloblhhnlaaajaadoor", sum := "fda31af0bd9526eef0b42245c163591a68c1dddbcf708bd51767623afb99de06", func := "orpiment/orpimentlaw15.ObjectNil", spec := "objectNil", unfollowed := true, recurses := true, named := ["orpiment/object.values"], apart := false, laid := [("orpiment/object.values", laid_orpiment_object_values)], narrowed := true }
def ObjectNilUptoSaid : Prop := objectNilUptoRow.holds Tryd.pinned (OpenSpec.upto objectNilSpec)

/-- 'orpimentlaw15.ObjectLinks', WHERE WHAT IT READS IS OF BULK AT MOST 1048576: true; the input reads as it did. -/
def objectLinksUptoRow : OpenClaim := { program := "ytloblhhnlaaajaadoor", sum := "fda31af0bd9526eef0b42245c163591a68c1dddbcf708bd51767623afb99de06", func := "orpiment/orpimentlaw15.ObjectLinks", spec := "objectLinks", unfollowed := true, recurses := true, named := ["orpiment/object.values", "orpiment/object.magics"], apart := false, laid := [("orpiment/object.magics", laid_orpiment_object_magics), ("orpiment/object.values", laid_orpiment_object_values)], narrowed := true }
def ObjectLinksUptoSaid : Prop := objectLinksUptoRow.holds Tryd.pinned (OpenSpec.upto objectLinksSpec)

/-- 'orpimentlaw15.ObjectDamage', WHERE WHAT IT READS IS OF BULK AT MOST 1048576: true; the input reads as it did. -/
def objectDamageUptoRow : OpenClaim := { program := "ytloblhhnlaaajaadoor", sum := "fda31af0bd9526eef0b42245c163591a68c1dddbcf708bd51767623afb99de06", func := "orpiment/orpimentlaw15.ObjectDamage", spec := "objectDamage", unfollowed := true, recurses := true, named := ["orpiment/object.values", "orpiment/object.magics"], apart := false, laid := [("orpiment/object.magics", laid_orpiment_object_magics), ("orpiment/object.values", laid_orpiment_object_values)], narrowed := true }
def ObjectDamageUptoSaid : Prop := objectDamageUptoRow.holds Tryd.pinned (OpenSpec.upto objectDamageSpec)

/-- 'orpimentlaw15.ObjectLazy', WHERE WHAT IT READS IS OF BULK AT MOST 1048576: true; the input reads as it did. -/
def objectLazyUptoRow : OpenClaim := { program := "ytloblhhnlaaajaadoor", sum := "fda31af0bd9526eef0b42245c163591a68c1dddbcf708bd51767623afb99de06", func := "orpiment/orpimentlaw15.ObjectLazy", spec := "objectLazy", unfollowed := true, recurses := true, named := ["orpiment/object.values"], apart := false, laid := [("orpiment/object.values", laid_orpiment_object_values)], narrowed := true }
def ObjectLazyUptoSaid : Prop := objectLazyUptoRow.holds Tryd.pinned (OpenSpec.upto objectLazySpec)

end Rows
end Go.Proofs.YtloblhhnlaaajaaDoor
