/-
  DERIVED. GIVEN WITH THE SEED: THE PROGRAM's TIES (one call each: nine closed facts by the kernel) AND EACH ROW's TIE, after the 31st guide's Derived/Test/Toyas{Tie, Card}.lean. No idea stands in it: it is a product of the set-up. Laid BY PROGRAM, IN A SANDBOX (cutbox-door.mjs). By AI agents, Wed Nov 11 2026. No macro, syntax, notation, axiom, sorry.
-/
import Derived.Test.YtloblhhnlaaajaaGreatDoorRows
import Derived.LaidByTextLater
import Derived.SevenTiedAt
import Derived.LaidSub
import Derived.LaidOnce
namespace Go.Proofs.YtloblhhnlaaajaaGreatDoor
open Go
set_option maxRecDepth 100000
theorem seatTie1 : Tryz.prog.laidByTextLater [("orpiment/object.magics", Rows.laid_orpiment_object_magics), ("orpiment/object.values", Rows.laid_orpiment_object_values)] [.widerDeep, .data] true :=
  Program.laidByTextLater_by_one 23 8 9 (by kernel_rfl) (by kernel_rfl) (by kernel_rfl) (by kernel_rfl) (by kernel_rfl) (by kernel_rfl) (fun _ _ => by kernel_rfl)
theorem noOwnUnsafe : Tryz.pinned.checked.prog.headLifts.contains "ownunsafe" = false := by kernel_rfl
theorem tie : Tryz.prog.laidByTextLater [("orpiment/object.magics", Rows.laid_orpiment_object_magics), ("orpiment/object.values", Rows.laid_orpiment_object_values)] [.widerDeep, .data] true :=
  Program.laidByTextLater.sub seatTie1 ["orpiment/object.magics", "orpiment/object.values"] (by kernel_rfl) (by kernel_rfl)
theorem objectCodes_row_tie : Rows.objectCodesRow.laidByTextAt .later Tryz.pinned [.widerDeep, .data] true :=
  OpenClaim.laidByTextAt_later rfl rfl tie noOwnUnsafe
theorem objectImages_row_tie : Rows.objectImagesRow.laidByTextAt .later Tryz.pinned [.widerDeep, .data] true :=
  OpenClaim.laidByTextAt_later rfl rfl tie noOwnUnsafe
theorem tie2 : Tryz.prog.laidByTextLater [("orpiment/object.values", Rows.laid_orpiment_object_values)] [.data] true :=
  Program.laidByTextLater.sub seatTie1 ["orpiment/object.values"] (by kernel_rfl) (by kernel_rfl)
theorem objectPrograms_row_tie : Rows.objectProgramsRow.laidByTextAt .later Tryz.pinned [.data] true :=
  OpenClaim.laidByTextAt_later rfl rfl tie2 noOwnUnsafe
theorem objectCodesUpto_row_tie : Rows.objectCodesUptoRow.laidByTextAt .later Tryz.pinned [.widerDeep, .data] true :=
  OpenClaim.laidByTextAt_later rfl rfl tie noOwnUnsafe
theorem objectImagesUpto_row_tie : Rows.objectImagesUptoRow.laidByTextAt .later Tryz.pinned [.widerDeep, .data] true :=
  OpenClaim.laidByTextAt_later rfl rfl tie noOwnUnsafe
theorem objectProgramsUpto_row_tie : Rows.objectProgramsUptoRow.laidByTextAt .later Tryz.pinned [.data] true :=
  OpenClaim.laidByTextAt_later rfl rfl tie2 noOwnUnsafe
end Go.Proofs.YtloblhhnlaaajaaGreatDoor
