/-
  DERIVED. GIVEN WITH THE SEED: THE CARDS: each row of YtbcnnkfopoiifaaGreatDoorRows.lean that lists a variable, with what it lists TIED to the program's text (the seventh form; the later family's looks); each row that meets fmt, with fmt's text TOLD by the authors' own Lean function (tested against real Go, not proved from fmt's source: count such statements apart). THE CARD IS WHAT COUNTS. Prove the row's statement (the work); the ties are given (YtbcnnkfopoiifaaGreatDoorTie.lean); close each card by the builder's one call (the guide's Derived/Test/ToyasCard.lean, 'card_holds'). Laid BY PROGRAM, IN A SANDBOX (cutbox-door.mjs). By AI agents, Wed Nov 11 2026. No macro, syntax, notation, axiom, sorry.
-/
import Derived.Test.YtbcnnkfopoiifaaGreatDoorRows
import GoSem.ClaimSeven
namespace Go.Proofs.YtbcnnkfopoiifaaGreatDoor
namespace Rows

/-- THE TIED CARD OF 'cleanroomlaw21.EngineMatchesReference'. -/
def engineMatchesReferenceCard : Claim7 := { stood := { row := engineMatchesReferenceRow, standIns := [], harness := (true, "7b0b0f7a9586d23b1e808d5a020c5114e47c1226340edeef2ec2f2445e1235e4"), looks := true }, kinds := [], alts := [], laidByText := true, laidKinds := [.sentinel, .sentinel], laidTests := true, laidLooks := .later }
def EngineMatchesReferenceCardSaid : Prop := Claim7.holds Tryz.pinned (.plain (OpenSpec.ofChange engineMatchesReferenceSpec)) engineMatchesReferenceCard

/-- THE SECOND FORM's CARD OF 'cleanroomlaw21.EngineMatchesReference'. -/
def engineMatchesReferenceUptoCard : Claim7 := { stood := { row := engineMatchesReferenceUptoRow, standIns := [], harness := (true, "7b0b0f7a9586d23b1e808d5a020c5114e47c1226340edeef2ec2f2445e1235e4"), looks := true }, kinds := [], alts := [], laidByText := true, laidKinds := [.sentinel, .sentinel], laidTests := true, laidLooks := .later }
def EngineMatchesReferenceUptoCardSaid : Prop := Claim7.holds Tryz.pinned (.plain (OpenSpec.upto engineMatchesReferenceSpec)) engineMatchesReferenceUptoCard
end Rows
end Go.Proofs.YtbcnnkfopoiifaaGreatDoor
