/-
  DERIVED. GIVEN WITH THE SEED: THE CARDS: each row of YtloblhhnlaaajaaDoorRows.lean that lists a variable, with what it lists TIED to the program's text (the seventh form; the later family's looks); each row that meets fmt, with fmt's text TOLD by the authors' own Lean function (tested against real Go, not proved from fmt's source: count such statements apart). THE CARD IS WHAT COUNTS. Prove the row's statement (the work); the ties are given (YtloblhhnlaaajaaDoorTie.lean); close each card by the builder's one call (the guide's Derived/Test/ToyasCard.lean, 'card_holds'). Laid BY PROGRAM, IN A SANDBOX (cutbox-door.mjs). By AI agents, Wed Nov 11 2026. No macro, syntax, notation, axiom, sorry.
-/
import Derived.Test.YtloblhhnlaaajaaDoorRows
import GoSem.ClaimSeven
namespace Go.Proofs.YtloblhhnlaaajaaDoor
namespace Rows

/-- THE TIED CARD OF 'orpimentlaw15.ObjectMoves'. -/
def objectMovesCard : Claim7 := { stood := { row := objectMovesRow, standIns := [], harness := (true, "94253923baa22bfdd198109a5f6a1768ae44f70cf88c2e704e96e205afbf3c5d"), looks := false }, kinds := [], alts := [], laidByText := true, laidKinds := [.data], laidTests := true, laidLooks := .later }
def ObjectMovesCardSaid : Prop := Claim7.holds Tryd.pinned (.plain (OpenSpec.ofChange objectMovesSpec)) objectMovesCard

/-- THE TIED CARD OF 'orpimentlaw15.ObjectNil'. -/
def objectNilCard : Claim7 := { stood := { row := objectNilRow, standIns := [], harness := (true, "94253923baa22bfdd198109a5f6a1768ae44f70cf88c2e704e96e205afbf3c5d"), looks := false }, kinds := [], alts := [], laidByText := true, laidKinds := [.data], laidTests := true, laidLooks := .later }
def ObjectNilCardSaid : Prop := Claim7.holds Tryd.pinned (.plain (OpenSpec.ofChange objectNilSpec)) objectNilCard

/-- THE TIED CARD OF 'orpimentlaw15.ObjectLinks'. -/
def objectLinksCard : Claim7 := { stood := { row := objectLinksRow, standIns := [], harness := (true, "94253923baa22bfdd198109a5f6a1768ae44f70cf88c2e704e96e205afbf3c5d"), looks := false }, kinds := [], alts := [], laidByText := true, laidKinds := [.widerDeep, .data], laidTests := true, laidLooks := .later }
def ObjectLinksCardSaid : Prop := Claim7.holds Tryd.pinned (.plain (OpenSpec.ofChange objectLinksSpec)) objectLinksCard

/-- THE TIED CARD OF 'orpimentlaw15.ObjectDamage'. -/
def objectDamageCard : Claim7 := { stood := { row := objectDamageRow, standIns := [], harness := (true, "94253923baa22bfdd198109a5f6a1768ae44f70cf88c2e704e96e205afbf3c5d"), looks := false }, kinds := [], alts := [], laidByText := true, laidKinds := [.widerDeep, .data], laidTests := true, laidLooks := .later }
def ObjectDamageCardSaid : Prop := Claim7.holds Tryd.pinned (.plain (OpenSpec.ofChange objectDamageSpec)) objectDamageCard

/-- THE TIED CARD OF 'orpimentlaw15.ObjectLazy'. -/
def objectLazyCard : Claim7 := { stood := { row := objectLazyRow, standIns := [], harness := (true, "94253923baa22bfdd198109a5f6a1768ae44f70cf88c2e704e96e205afbf3c5d"), looks := false }, kinds := [], alts := [], laidByText := true, laidKinds := [.data], laidTests := true, laidLooks := .later }
def ObjectLazyCardSaid : Prop := Claim7.holds Tryd.pinned (.plain (OpenSpec.ofChange objectLazySpec)) objectLazyCard

/-- THE SECOND FORM's CARD OF 'orpimentlaw15.ObjectMoves'. -/
def objectMovesUptoCard : Claim7 := { stood := { row := objectMovesUptoRow, standIns := [], harness := (true, "94253923baa22bfdd198109a5f6a1768ae44f70cf88c2e704e96e205afbf3c5d"), looks := false }, kinds := [], alts := [], laidByText := true, laidKinds := [.data], laidTests := true, laidLooks := .later }
def ObjectMovesUptoCardSaid : Prop := Claim7.holds Tryd.pinned (.plain (OpenSpec.upto objectMovesSpec)) objectMovesUptoCard

/-- THE SECOND FORM's CARD OF 'orpimentlaw15.ObjectNil'. -/
def objectNilUptoCard : Claim7 := { stood := { row := objectNilUptoRow, standIns := [], harness := (true, "94253923baa22bfdd198109a5f6a1768ae44f70cf88c2e704e96e205afbf3c5d"), looks := false }, kinds := [], alts := [], laidByText := true, laidKinds := [.data], laidTests := true, laidLooks := .later }
def ObjectNilUptoCardSaid : Prop := Claim7.holds Tryd.pinned (.plain (OpenSpec.upto objectNilSpec)) objectNilUptoCard

/-- THE SECOND FORM's CARD OF 'orpimentlaw15.ObjectLinks'. -/
def objectLinksUptoCard : Claim7 := { stood := { row := objectLinksUptoRow, standIns := [], harness := (true, "94253923baa22bfdd198109a5f6a1768ae44f70cf88c2e704e96e205afbf3c5d"), looks := false }, kinds := [], alts := [], laidByText := true, laidKinds := [.widerDeep, .data], laidTests := true, laidLooks := .later }
def ObjectLinksUptoCardSaid : Prop := Claim7.holds Tryd.pinned (.plain (OpenSpec.upto objectLinksSpec)) objectLinksUptoCard

/-- THE SECOND FORM's CARD OF 'orpimentlaw15.ObjectDamage'. -/
def objectDamageUptoCard : Claim7 := { stood := { row := objectDamageUptoRow, standIns := [], harness := (true, "94253923baa22bfdd198109a5f6a1768ae44f70cf88c2e704e96e205afbf3c5d"), looks := false }, kinds := [], alts := [], laidByText := true, laidKinds := [.widerDeep, .data], laidTests := true, laidLooks := .later }
def ObjectDamageUptoCardSaid : Prop := Claim7.holds Tryd.pinned (.plain (OpenSpec.upto objectDamageSpec)) objectDamageUptoCard

/-- THE SECOND FORM's CARD OF 'orpimentlaw15.ObjectLazy'. -/
def objectLazyUptoCard : Claim7 := { stood := { row := objectLazyUptoRow, standIns := [], harness := (true, "94253923baa22bfdd198109a5f6a1768ae44f70cf88c2e704e96e205afbf3c5d"), looks := false }, kinds := [], alts := [], laidByText := true, laidKinds := [.data], laidTests := true, laidLooks := .later }
def ObjectLazyUptoCardSaid : Prop := Claim7.holds Tryd.pinned (.plain (OpenSpec.upto objectLazySpec)) objectLazyUptoCard
end Rows
end Go.Proofs.YtloblhhnlaaajaaDoor
