/-
  NARROWER THAN 'FOR EVERY INPUT', by the rows' own cells (each row's printed sentence says how): ObjectCodes: laid · ObjectImages: laid · ObjectPrograms: laid.
  DERIVED. THE GIVEN ROWS OF THIS SEAT. 3 by the template 'for every input the law returns true; each argument reads behind the call as it read before'; 0 by the template 'total and deterministic' (their statements: YtloblhhnlaaajaaGreatDoorTotals.lean).
  GIVEN WITH THE SEED: the statements are not yours to turn. If you find one false, say at which input.
  Laid BY PROGRAM, IN A SANDBOX (cutbox-rows.mjs): the forced cells as the released guide's own fill.sh prints them over the translation 17af98420da8bda9… (all of the seat's roots in one cut). By AI agents, Wed Nov 11 2026. No macro, syntax, notation, axiom, sorry.
-/
import Derived.Test.YtloblhhnlaaajaaGreatDoorChecked
import GoSem.Claim
import GoSem.ClaimJoined
import GoSem.ClaimMapViews
import Derived.JoinedTies
import Derived.KernelRfl
namespace Go.Proofs.YtloblhhnlaaajaaGreatDoor
/- THE CELL 'sum', in the pinned program and in every row, IS THE sha256 OF THE DUMP (.gsa) THAT YtloblhhnlaaajaaGreatDoorProg.lean LOADS. Nothing in Lean hashes anything: it is a label: what it is worth is what the hold of that sum in a sandbox is worth. -/
noncomputable def Tryz.pinned : Pinned := { name := "ytloblhhnlaaajaagreatdoor", sum := "17af98420da8bda96904fdc1b2f8e2b0b20a743518f3f0243f1dc19d04134041", checked := Tryz.checked }
namespace Rows
def none {H : Type} : Left H := { results := [], args := [] }

/- WHAT THE LISTED PACKAGE-LEVEL VARIABLES READ AS WHEN THE CALL BEGINS. Each datum BY PROGRAM (the guide's laid-datum.mjs) off the statement by which the dump's own 'gosem.cut.vars' lays the variable. In a bare row this is a premise. The card (YtloblhhnlaaajaaGreatDoorCards.lean) ties it to the program's text. -/
def laid_orpiment_object_magics {H : Type} : DataW H := .agg [.agg [.lit (.int .u8 79), .lit (.int .u8 66), .lit (.int .u8 74), .lit (.int .u8 49)], .agg [.lit (.int .u8 73), .lit (.int .u8 77), .lit (.int .u8 71), .lit (.int .u8 49)]]
def laid_orpiment_object_values {H : Type} : DataW H := .agg [.agg [.lit (.bool false), .lit (.bool false)], .agg [.lit (.bool false), .lit (.bool true)], .agg [.lit (.bool true), .lit (.bool false)]]

/-- 'orpimentlaw15.ObjectCodes': WHATEVER THE INPUT: true; the input reads as it did. -/
def objectCodesSpec : ChangeSpec := { name := "objectCodes", fn := fun _ => fun
  | [d1, d2] => { results := [.lit (.bool true)], args := [d1, d2] }
  | _ => none }
def objectCodesRow : OpenClaim := { program := "ytloblhhnlaaajaagreatdoor", sum := "17af98420da8bda96904fdc1b2f8e2b0b20a743518f3f0243f1dc19d04134041", func := "orpiment/orpimentlaw15.ObjectCodes", spec := "objectCodes", unfollowed := true, recurses := true, named := ["orpiment/object.values", "orpiment/object.magics"], apart := false, laid := [("orpiment/object.magics", laid_orpiment_object_magics), ("orpiment/object.values", laid_orpiment_object_values)] }
def ObjectCodesSaid : Prop := objectCodesRow.holds Tryz.pinned (OpenSpec.ofChange objectCodesSpec)

/-- ITS FALSE NEIGHBOUR: 'it returns false'. Refute it at one input. -/
def objectCodesWrong : ChangeSpec := { name := "objectCodes", fn := fun _ => fun
  | [d1, d2] => { results := [.lit (.bool false)], args := [d1, d2] }
  | _ => none }
def ObjectCodesWrongFalsely : Prop := objectCodesRow.holds Tryz.pinned (OpenSpec.ofChange objectCodesWrong)

/-- 'orpimentlaw15.ObjectImages': WHATEVER THE INPUT: true; the input reads as it did. -/
def objectImagesSpec : ChangeSpec := { name := "objectImages", fn := fun _ => fun
  | [d1, d2] => { results := [.lit (.bool true)], args := [d1, d2] }
  | _ => none }
def objectImagesRow : OpenClaim := { program := "ytloblhhnlaaajaagreatdoor", sum := "17af98420da8bda96904fdc1b2f8e2b0b20a743518f3f0243f1dc19d04134041", func := "orpiment/orpimentlaw15.ObjectImages", spec := "objectImages", unfollowed := true, recurses := true, named := ["orpiment/object.values", "orpiment/object.magics"], apart := false, laid := [("orpiment/object.magics", laid_orpiment_object_magics), ("orpiment/object.values", laid_orpiment_object_values)] }
def ObjectImagesSaid : Prop := objectImagesRow.holds Tryz.pinned (OpenSpec.ofChange objectImagesSpec)

/-- ITS FALSE NEIGHBOUR: 'it returns false'. Refute it at one input. -/
def objectImagesWrong : ChangeSpec := { name := "objectImages", fn := fun _ => fun
  | [d1, d2] => { results := [.lit (.bool false)], args := [d1, d2] }
  | _ => none }
def ObjectImagesWrongFalsely : Prop := objectImagesRow.holds Tryz.pinned (OpenSpec.ofChange objectImagesWrong)

/-- 'orpimentlaw15.ObjectPrograms': WHATEVER THE INPUT: true; the input reads as it did. -/
def objectProgramsSpec : ChangeSpec := { name := "objectPrograms", fn := fun _ => fun
  | [d1, d2] => { results := [.lit (.bool true)], args := [d1, d2] }
  | _ => none }
def objectProgramsRow : OpenClaim := { program := "ytloblhhnlaaajaagreatdoor", sum := "17af98420da8bda96904fdc1b2f8e2b0b20a743518f3f0243f1dc19d04134041", func := "orpiment/orpimentlaw15.ObjectPrograms", spec := "objectPrograms", unfollowed := true, recurses := true, named := ["orpiment/object.values"], apart := false, laid := [("orpiment/object.values", laid_orpiment_object_values)] }
def ObjectProgramsSaid : Prop := objectProgramsRow.holds Tryz.pinned (OpenSpec.ofChange objectProgramsSpec)

/-- ITS FALSE NEIGHBOUR: 'it returns false'. Refute it at one input. -/
def objectProgramsWrong : ChangeSpec := { name := "objectPrograms", fn := fun _ => fun
  | [d1, d2] => { results := [.lit (.bool false)], args := [d1, d2] }
  | _ => none }
def ObjectProgramsWrongFalsely : Prop := objectProgramsRow.holds Tryz.pinned (OpenSpec.ofChange objectProgramsWrong)

/- THE SECOND FORM. 'bulk': how many values and letters a reading holds, each counted each time it is reached (what is shared counts as often as it is met; a slice's spare places count too). A statement '..UptoSaid' is the law's where the arguments, and the package variables that the reading takes, are together of bulk at most 1048576: NARROWER than '..Said'. Prove '..Said' where nothing that the law and all that it calls make is longer than what came in: it says more and counts as full. Else prove '..UptoSaid'. A law counts once. -/
mutual
def uptoBulk {H : Type} : DataW H → Nat
  | .lit (.string bytes) => bytes.length + 1
  | .lit _ => 1
  | .nil => 1
  | .ptr d => uptoBulk d + 1
  | .slice elems spare => uptoBulkAll elems + uptoBulkAll spare + 1
  | .agg parts => uptoBulkAll parts + 1
  | .iface _ d => uptoBulk d + 1
  | .map entries => uptoBulkEntries entries + 1
  | .held _ => 1
def uptoBulkAll {H : Type} : List (DataW H) → Nat
  | [] => 0
  | d :: r => uptoBulk d + uptoBulkAll r
def uptoBulkEntries {H : Type} : List (Lit × DataW H) → Nat
  | [] => 0
  | x :: r => uptoBulkEntry x + uptoBulkEntries r
def uptoBulkEntry {H : Type} : Lit × DataW H → Nat
  | (.string bytes, d) => bytes.length + uptoBulk d + 1
  | (_, d) => uptoBulk d + 1
 end
def uptoSmall : (H : Type) → List (DataW H) → Bool := fun _ ds => decide (uptoBulkAll ds ≤ 1048576)
def OpenSpec.upto (s : _root_.Go.ChangeSpec) : _root_.Go.OpenSpec := { _root_.Go.OpenSpec.ofChange s with cond := some uptoSmall }

/-- 'orpimentlaw15.ObjectCodes', WHERE WHAT IT READS IS OF BULK AT MOST 1048576: true; the input reads as it did. -/
def objectCodesUptoRow : OpenClaim := { program := "ytloblhhnlaaajaagreatdoor", sum := "17af98420da8bda96904fdc1b2f8e2b0b20a743518f3f0243f1dc19d04134041", func := "orpiment/orpimentlaw15.ObjectCodes", spec := "objectCodes", unfollowed := true, recurses := true, named := ["orpiment/object.values", "orpiment/object.magics"], apart := false, laid := [("orpiment/object.magics", laid_orpiment_object_magics), ("orpiment/object.values", laid_orpiment_object_values)], narrowed := true }
def ObjectCodesUptoSaid : Prop := objectCodesUptoRow.holds Tryz.pinned (OpenSpec.upto objectCodesSpec)

/-- 'orpimentlaw15.ObjectImages', WHERE WHAT IT READS IS OF BULK AT MOST 1048576: true; the input reads as it did. -/
def objectImagesUptoRow : OpenClaim := { program := "ytloblhhnlaaajaagreatdoor", sum := "17af98420da8bda96904fdc1b2f8e2b0b20a743518f3f0243f1dc19d04134041", func := "orpiment/orpimentlaw15.ObjectImages", spec := "objectImages", unfollowed := true, recurses := true, named := ["orpiment/object.values", "orpiment/object.magics"], apart := false, laid := [("orpiment/object.magics", laid_orpiment_object_magics), ("orpiment/object.values", laid_orpiment_object_values)], narrowed := true }
def ObjectImagesUptoSaid : Prop := objectImagesUptoRow.holds Tryz.pinned (OpenSpec.upto objectImagesSpec)

/-- 'orpimentlaw15.ObjectPrograms', WHERE WHAT IT READS IS OF BULK AT MOST 1048576: true; the input reads as it did. -/
def objectProgramsUptoRow : OpenClaim := { program := "ytloblhhnlaaajaagreatdoor", sum := "17af98420da8bda96904fdc1b2f8e2b0b20a743518f3f0243f1dc19d04134041", func := "orpiment/orpimentlaw15.ObjectPrograms", spec := "objectPrograms", unfollowed := true, recurses := true, named := ["orpiment/object.values"], apart := false, laid := [("orpiment/object.values", laid_orpiment_object_values)], narrowed := true }
def ObjectProgramsUptoSaid : Prop := objectProgramsUptoRow.holds Tryz.pinned (OpenSpec.upto objectProgramsSpec)

end Rows
end Go.Proofs.YtloblhhnlaaajaaGreatDoor
