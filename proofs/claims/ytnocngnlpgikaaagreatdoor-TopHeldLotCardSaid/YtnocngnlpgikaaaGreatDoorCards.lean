/-
  DERIVED. GIVEN WITH THE SEED: THE CARDS: each row of YtnocngnlpgikaaaGreatDoorRows.lean that lists a variable, with what it lists TIED to the program's text (the seventh form; the later family's looks); each row that meets fmt, with fmt's text TOLD by the authors' own Lean function (tested against real Go, not proved from fmt's source: count such statements apart). THE CARD IS WHAT COUNTS. Prove the row's statement (the work); the ties are given (YtnocngnlpgikaaaGreatDoorTie.lean); close each card by the builder's one call (the guide's Derived/Test/ToyasCard.lean, 'card_holds'). Laid BY PROGRAM, IN A SANDBOX (cutbox-door.mjs). By AI agents, Wed Nov 11 2026. No macro, syntax, notation, axiom, sorry.
-/
import Derived.Test.YtnocngnlpgikaaaGreatDoorRows
import GoSem.ClaimSeven
namespace Go.Proofs.YtnocngnlpgikaaaGreatDoor
namespace Rows

/-- THE TIED CARD OF 'cleanroomtop.TopHeldLot'. -/
def topHeldLotCard : Claim7 := { stood := { row := topHeldLotRow, standIns := [], harness := (true, "56cc0f5cf5dc0484f996ea454fcb4c27137f44472631f8ffe209a7db3301492f"), looks := true }, kinds := [], alts := [], laidByText := true, laidKinds := [.data, .data, .data, .data, .sentinel, .sentinel, .pinned], laidTests := true, laidLooks := .later }
def TopHeldLotCardSaid : Prop := Claim7.holds Tryz.pinned (.plain (OpenSpec.ofChange topHeldLotSpec)) topHeldLotCard

/-- THE SECOND FORM's CARD OF 'cleanroomtop.TopHeldLot'. -/
def topHeldLotUptoCard : Claim7 := { stood := { row := topHeldLotUptoRow, standIns := [], harness := (true, "56cc0f5cf5dc0484f996ea454fcb4c27137f44472631f8ffe209a7db3301492f"), looks := true }, kinds := [], alts := [], laidByText := true, laidKinds := [.data, .data, .data, .data, .sentinel, .sentinel, .pinned], laidTests := true, laidLooks := .later }
def TopHeldLotUptoCardSaid : Prop := Claim7.holds Tryz.pinned (.plain (OpenSpec.upto topHeldLotSpec)) topHeldLotUptoCard
end Rows
end Go.Proofs.YtnocngnlpgikaaaGreatDoor
