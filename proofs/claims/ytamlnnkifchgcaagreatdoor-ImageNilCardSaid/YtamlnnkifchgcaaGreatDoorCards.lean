/-
  DERIVED. GIVEN WITH THE SEED: THE CARDS: each row of YtamlnnkifchgcaaGreatDoorRows.lean that lists a variable, with what it lists TIED to the program's text (the seventh form; the later family's looks); each row that meets fmt, with fmt's text TOLD by the authors' own Lean function (tested against real Go, not proved from fmt's source: count such statements apart). THE CARD IS WHAT COUNTS. Prove the row's statement (the work); the ties are given (YtamlnnkifchgcaaGreatDoorTie.lean); close each card by the builder's one call (the guide's Derived/Test/ToyasCard.lean, 'card_holds'). Laid BY PROGRAM, IN A SANDBOX (cutbox-door.mjs). By AI agents, Wed Nov 11 2026. No macro, syntax, notation, axiom, sorry.
-/
import Derived.Test.YtamlnnkifchgcaaGreatDoorRows
import GoSem.ClaimSeven
namespace Go.Proofs.YtamlnnkifchgcaaGreatDoor
namespace Rows

/-- THE TIED CARD OF 'orpimentlaw33.ImageNil'. -/
def imageNilCard : Claim7 := { stood := { row := imageNilRow, standIns := [], harness := (true, "2a4edec3d6608b5f814fab21aca9fb4ba0261913533f5102c5c821877583fd08"), looks := true }, kinds := [], alts := [], laidByText := true, laidKinds := [.data, .data, .data, .data, .sentinel, .sentinel, .pinned], laidTests := true, laidLooks := .later }
def ImageNilCardSaid : Prop := Claim7.holds Tryz.pinned (.plain (OpenSpec.ofChange imageNilSpec)) imageNilCard

/-- THE SECOND FORM's CARD OF 'orpimentlaw33.ImageNil'. -/
def imageNilUptoCard : Claim7 := { stood := { row := imageNilUptoRow, standIns := [], harness := (true, "2a4edec3d6608b5f814fab21aca9fb4ba0261913533f5102c5c821877583fd08"), looks := true }, kinds := [], alts := [], laidByText := true, laidKinds := [.data, .data, .data, .data, .sentinel, .sentinel, .pinned], laidTests := true, laidLooks := .later }
def ImageNilUptoCardSaid : Prop := Claim7.holds Tryz.pinned (.plain (OpenSpec.upto imageNilSpec)) imageNilUptoCard
end Rows
end Go.Proofs.YtamlnnkifchgcaaGreatDoor
