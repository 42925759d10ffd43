/-
  DERIVED. GIVEN WITH THE SEED: THE CARDS: each row of YtloblhhnlaaajaaGreatDoorRows.lean that lists a variable, with what it lists TIED to the program's text (the seventh form; the later family's looks); each row that meets fmt, with fmt's text TOLD by the authors' own Lean function (tested against real Go, not proved from fmt's source: count such statements apart). THE CARD IS WHAT COUNTS. Prove the row's statement (the work); the ties are given (YtloblhhnlaaajaaGreatDoorTie.lean); close each card by the builder's one call (the guide's Derived/Test/ToyasCard.lean, 'card_holds'). Laid BY PROGRAM, IN A SANDBOX (cutbox-door.mjs). By AI agents, Wed Nov 11 2026. No macro, syntax, notation, axiom, sorry.
-/
import Derived.Test.YtloblhhnlaaajaaGreatDoorRows
import GoSem.ClaimSeven
namespace Go.Proofs.YtloblhhnlaaajaaGreatDoor
namespace Rows

/-- THE TIED CARD OF 'orpimentlaw15.ObjectCodes'. -/
def objectCodesCard : Claim7 := { stood := { row := objectCodesRow, standIns := [], harness := (true, "cb019b053f727950e6032d633223c36886e7c5fc2446a43f71c92db7ef2a6dea"), looks := false }, kinds := [], alts := [], laidByText := true, laidKinds := [.widerDeep, .data], laidTests := true, laidLooks := .later }
def ObjectCodesCardSaid : Prop := Claim7.holds Tryz.pinned (.plain (OpenSpec.ofChange objectCodesSpec)) objectCodesCard

/-- THE TIED CARD OF 'orpimentlaw15.ObjectImages'. -/
def objectImagesCard : Claim7 := { stood := { row := objectImagesRow, standIns := [], harness := (true, "cb019b053f727950e6032d633223c36886e7c5fc2446a43f71c92db7ef2a6dea"), looks := false }, kinds := [], alts := [], laidByText := true, laidKinds := [.widerDeep, .data], laidTests := true, laidLooks := .later }
def ObjectImagesCardSaid : Prop := Claim7.holds Tryz.pinned (.plain (OpenSpec.ofChange objectImagesSpec)) objectImagesCard

/-- THE TIED CARD OF 'orpimentlaw15.ObjectPrograms'. -/
def objectProgramsCard : Claim7 := { stood := { row := objectProgramsRow, standIns := [], harness := (true, "cb019b053f727950e6032d633223c36886e7c5fc2446a43f71c92db7ef2a6dea"), looks := false }, kinds := [], alts := [], laidByText := true, laidKinds := [.data], laidTests := true, laidLooks := .later }
def ObjectProgramsCardSaid : Prop := Claim7.holds Tryz.pinned (.plain (OpenSpec.ofChange objectProgramsSpec)) objectProgramsCard

/-- THE SECOND FORM's CARD OF 'orpimentlaw15.ObjectCodes'. -/
def objectCodesUptoCard : Claim7 := { stood := { row := objectCodesUptoRow, standIns := [], harness := (true, "cb019b053f727950e6032d633223c36886e7c5fc2446a43f71c92db7ef2a6dea"), looks := false }, kinds := [], alts := [], laidByText := true, laidKinds := [.widerDeep, .data], laidTests := true, laidLooks := .later }
def ObjectCodesUptoCardSaid : Prop := Claim7.holds Tryz.pinned (.plain (OpenSpec.upto objectCodesSpec)) objectCodesUptoCard

/-- THE SECOND FORM's CARD OF 'orpimentlaw15.ObjectImages'. -/
def objectImagesUptoCard : Claim7 := { stood := { row := objectImagesUptoRow, standIns := [], harness := (true, "cb019b053f727950e6032d633223c36886e7c5fc2446a43f71c92db7ef2a6dea"), looks := false }, kinds := [], alts := [], laidByText := true, laidKinds := [.widerDeep, .data], laidTests := true, laidLooks := .later }
def ObjectImagesUptoCardSaid : Prop := Claim7.holds Tryz.pinned (.plain (OpenSpec.upto objectImagesSpec)) objectImagesUptoCard

/-- THE SECOND FORM's CARD OF 'orpimentlaw15.ObjectPrograms'. -/
def objectProgramsUptoCard : Claim7 := { stood := { row := objectProgramsUptoRow, standIns := [], harness := (true, "cb019b053f727950e6032d633223c36886e7c5fc2446a43f71c92db7ef2a6dea"), looks := false }, kinds := [], alts := [], laidByText := true, laidKinds := [.data], laidTests := true, laidLooks := .later }
def ObjectProgramsUptoCardSaid : Prop := Claim7.holds Tryz.pinned (.plain (OpenSpec.upto objectProgramsSpec)) objectProgramsUptoCard
end Rows
end Go.Proofs.YtloblhhnlaaajaaGreatDoor
