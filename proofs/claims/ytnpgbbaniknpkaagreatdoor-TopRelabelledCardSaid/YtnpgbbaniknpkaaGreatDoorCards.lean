/-
  DERIVED. GIVEN WITH THE SEED: THE CARDS: each row of YtnpgbbaniknpkaaGreatDoorRows.lean that lists a variable, with what it lists TIED to the program's text (the seventh form; the later family's looks); each row that meets fmt, with fmt's text TOLD by the authors' own Lean function (tested against real Go, not proved from fmt's source: count such statements apart). THE CARD IS WHAT COUNTS. Prove the row's statement (the work); the ties are given (YtnpgbbaniknpkaaGreatDoorTie.lean); close each card by the builder's one call (the guide's Derived/Test/ToyasCard.lean, 'card_holds'). Laid BY PROGRAM, IN A SANDBOX (cutbox-door.mjs). By AI agents, Wed Nov 11 2026. No macro, syntax, notation, axiom, sorry.
-/
import Derived.Test.YtnpgbbaniknpkaaGreatDoorRows
import GoSem.ClaimSeven
namespace Go.Proofs.YtnpgbbaniknpkaaGreatDoor
namespace Rows

/-- THE TIED CARD OF 'cleanroomtop.TopRelabelled'. -/
def topRelabelledCard : Claim7 := { stood := { row := topRelabelledRow, standIns := [], harness := (true, "683ffb7bd3aab9969a94882e471a52e76db523c3c1c1bf94e6deeb835abb3173"), looks := true }, kinds := [], alts := [], laidByText := true, laidKinds := [.data, .data, .data, .data, .sentinel, .sentinel, .pinned], laidTests := true, laidLooks := .later }
def TopRelabelledCardSaid : Prop := Claim7.holds Tryz.pinned (.plain (OpenSpec.ofChange topRelabelledSpec)) topRelabelledCard

/-- THE SECOND FORM's CARD OF 'cleanroomtop.TopRelabelled'. -/
def topRelabelledUptoCard : Claim7 := { stood := { row := topRelabelledUptoRow, standIns := [], harness := (true, "683ffb7bd3aab9969a94882e471a52e76db523c3c1c1bf94e6deeb835abb3173"), looks := true }, kinds := [], alts := [], laidByText := true, laidKinds := [.data, .data, .data, .data, .sentinel, .sentinel, .pinned], laidTests := true, laidLooks := .later }
def TopRelabelledUptoCardSaid : Prop := Claim7.holds Tryz.pinned (.plain (OpenSpec.upto topRelabelledSpec)) topRelabelledUptoCard
end Rows
end Go.Proofs.YtnpgbbaniknpkaaGreatDoor
