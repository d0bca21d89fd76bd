/-
  DERIVED. GIVEN WITH THE SEED: THE CARDS: each row of YtdilcdgjklimoaaGreatDoorRows.lean that lists a variable, with what it lists TIED to the program's text (the seventh form; the later family's looks); each row that meets fmt, with fmt's text TOLD by the authors' own Lean function (tested against real Go, not proved from fmt's source: count such statements apart). THE CARD IS WHAT COUNTS. Prove the row's statement (the work); the ties are given (YtdilcdgjklimoaaGreatDoorTie.lean); close each card by the builder's one call (the guide's Derived/Test/ToyasCard.lean, 'card_holds'). Laid BY PROGRAM, IN A SANDBOX (cutbox-door.mjs). By AI agents, Wed Nov 11 2026. No macro, syntax, notation, axiom, sorry.
-/
import Derived.Test.YtdilcdgjklimoaaGreatDoorRows
import GoSem.ClaimSeven
namespace Go.Proofs.YtdilcdgjklimoaaGreatDoor
namespace Rows

/-- THE TIED CARD OF 'cleanroomtop.TopInspected'. -/
def topInspectedCard : Claim7 := { stood := { row := topInspectedRow, standIns := [], harness := (true, "ef302897f9a3544a80ccc93dacd901837f0d1844fcb2245ad4767df09db02761"), looks := false }, kinds := [], alts := [], laidByText := true, laidKinds := [.data, .data], laidTests := true, laidLooks := .later }
def TopInspectedCardSaid : Prop := Claim7.holds Tryz.pinned (.plain (OpenSpec.ofChange topInspectedSpec)) topInspectedCard

/-- THE SECOND FORM's CARD OF 'cleanroomtop.TopInspected'. -/
def topInspectedUptoCard : Claim7 := { stood := { row := topInspectedUptoRow, standIns := [], harness := (true, "ef302897f9a3544a80ccc93dacd901837f0d1844fcb2245ad4767df09db02761"), looks := false }, kinds := [], alts := [], laidByText := true, laidKinds := [.data, .data], laidTests := true, laidLooks := .later }
def TopInspectedUptoCardSaid : Prop := Claim7.holds Tryz.pinned (.plain (OpenSpec.upto topInspectedSpec)) topInspectedUptoCard
end Rows
end Go.Proofs.YtdilcdgjklimoaaGreatDoor
