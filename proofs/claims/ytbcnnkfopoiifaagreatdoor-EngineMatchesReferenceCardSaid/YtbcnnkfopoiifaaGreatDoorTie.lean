/-
  DERIVED. GIVEN WITH THE SEED: THE PROGRAM's TIES (one call each: nine closed facts by the kernel) AND EACH ROW's TIE, after the 31st guide's Derived/Test/Toyas{Tie, Card}.lean. No idea stands in it: it is a product of the set-up. Laid BY PROGRAM, IN A SANDBOX (cutbox-door.mjs). By AI agents, Wed Nov 11 2026. No macro, syntax, notation, axiom, sorry.
-/
import Derived.Test.YtbcnnkfopoiifaaGreatDoorRows
import Derived.LaidByTextLater
import Derived.SevenTiedAt
import Derived.LaidSub
import Derived.LaidOnce
namespace Go.Proofs.YtbcnnkfopoiifaaGreatDoor
open Go
set_option maxRecDepth 100000
theorem seatTie1 : Tryz.prog.laidByTextLater [("cleanroom/ratio.errMisfit", Rows.laid_cleanroom_ratio_errMisfit), ("cleanroom/control.errSize", Rows.laid_cleanroom_control_errSize)] [.sentinel, .sentinel] true :=
  Program.laidByTextLater_by_one 47 8 2 (by kernel_rfl) (by kernel_rfl) (by kernel_rfl) (by kernel_rfl) (by kernel_rfl) (by kernel_rfl) (fun _ _ => by kernel_rfl)
theorem noOwnUnsafe : Tryz.pinned.checked.prog.headLifts.contains "ownunsafe" = false := by kernel_rfl
theorem tie : Tryz.prog.laidByTextLater [("cleanroom/ratio.errMisfit", Rows.laid_cleanroom_ratio_errMisfit), ("cleanroom/control.errSize", Rows.laid_cleanroom_control_errSize)] [.sentinel, .sentinel] true :=
  Program.laidByTextLater.sub seatTie1 ["cleanroom/ratio.errMisfit", "cleanroom/control.errSize"] (by kernel_rfl) (by kernel_rfl)
theorem engineMatchesReference_row_tie : Rows.engineMatchesReferenceRow.laidByTextAt .later Tryz.pinned [.sentinel, .sentinel] true :=
  OpenClaim.laidByTextAt_later rfl rfl tie noOwnUnsafe
theorem engineMatchesReferenceUpto_row_tie : Rows.engineMatchesReferenceUptoRow.laidByTextAt .later Tryz.pinned [.sentinel, .sentinel] true :=
  OpenClaim.laidByTextAt_later rfl rfl tie noOwnUnsafe
end Go.Proofs.YtbcnnkfopoiifaaGreatDoor
