/-
  DERIVED. GIVEN WITH THE SEED: THE CARDS: each row of YtgjogglfnkgapaaGreatDoorRows.lean that lists a variable, with what it lists TIED to the program's text (the seventh form; the later family's looks); each row that meets fmt, with fmt's text TOLD by the authors' own Lean function (tested against real Go, not proved from fmt's source: count such statements apart). THE CARD IS WHAT COUNTS. Prove the row's statement (the work); the ties are given (YtgjogglfnkgapaaGreatDoorTie.lean); close each card by the builder's one call (the guide's Derived/Test/ToyasCard.lean, 'card_holds'). Laid BY PROGRAM, IN A SANDBOX (cutbox-door.mjs). By AI agents, Wed Nov 11 2026. No macro, syntax, notation, axiom, sorry.
-/
import Derived.Test.YtgjogglfnkgapaaGreatDoorRows
import GoSem.ClaimSeven
namespace Go.Proofs.YtgjogglfnkgapaaGreatDoor
namespace Rows

/-- THE TIED CARD OF 'cleanroomtop.TopWithdrawn'. -/
def topWithdrawnCard : Claim7 := { stood := { row := topWithdrawnRow, standIns := [], harness := (true, "d101da627f258936ea1d1244092b5e600169db08889b9e8fd904c20c64683ea1"), looks := true }, kinds := [], alts := [], laidByText := true, laidKinds := [.sentinel, .sentinel], laidTests := true, laidLooks := .later }
def TopWithdrawnCardSaid : Prop := Claim7.holds Tryz.pinned (.plain (OpenSpec.ofChange topWithdrawnSpec)) topWithdrawnCard

/-- THE TIED CARD OF 'cleanroomtop.TopInspected'. -/
def topInspectedCard : Claim7 := { stood := { row := topInspectedRow, standIns := [], harness := (true, "d101da627f258936ea1d1244092b5e600169db08889b9e8fd904c20c64683ea1"), looks := true }, kinds := [], alts := [], laidByText := true, laidKinds := [.data, .data], laidTests := true, laidLooks := .later }
def TopInspectedCardSaid : Prop := Claim7.holds Tryz.pinned (.plain (OpenSpec.ofChange topInspectedSpec)) topInspectedCard

/-- THE TIED CARD OF 'cleanroomlaw21.EngineMatchesReference'. -/
def engineMatchesReferenceCard : Claim7 := { stood := { row := engineMatchesReferenceRow, standIns := [], harness := (true, "d101da627f258936ea1d1244092b5e600169db08889b9e8fd904c20c64683ea1"), looks := true }, kinds := [], alts := [], laidByText := true, laidKinds := [.sentinel, .sentinel], laidTests := true, laidLooks := .later }
def EngineMatchesReferenceCardSaid : Prop := Claim7.holds Tryz.pinned (.plain (OpenSpec.ofChange engineMatchesReferenceSpec)) engineMatchesReferenceCard

/-- THE SECOND FORM's CARD OF 'cleanroomtop.TopWithdrawn'. -/
def topWithdrawnUptoCard : Claim7 := { stood := { row := topWithdrawnUptoRow, standIns := [], harness := (true, "d101da627f258936ea1d1244092b5e600169db08889b9e8fd904c20c64683ea1"), looks := true }, kinds := [], alts := [], laidByText := true, laidKinds := [.sentinel, .sentinel], laidTests := true, laidLooks := .later }
def TopWithdrawnUptoCardSaid : Prop := Claim7.holds Tryz.pinned (.plain (OpenSpec.upto topWithdrawnSpec)) topWithdrawnUptoCard

/-- THE SECOND FORM's CARD OF 'cleanroomtop.TopInspected'. -/
def topInspectedUptoCard : Claim7 := { stood := { row := topInspectedUptoRow, standIns := [], harness := (true, "d101da627f258936ea1d1244092b5e600169db08889b9e8fd904c20c64683ea1"), looks := true }, kinds := [], alts := [], laidByText := true, laidKinds := [.data, .data], laidTests := true, laidLooks := .later }
def TopInspectedUptoCardSaid : Prop := Claim7.holds Tryz.pinned (.plain (OpenSpec.upto topInspectedSpec)) topInspectedUptoCard

/-- THE SECOND FORM's CARD OF 'cleanroomlaw21.EngineMatchesReference'. -/
def engineMatchesReferenceUptoCard : Claim7 := { stood := { row := engineMatchesReferenceUptoRow, standIns := [], harness := (true, "d101da627f258936ea1d1244092b5e600169db08889b9e8fd904c20c64683ea1"), looks := true }, kinds := [], alts := [], laidByText := true, laidKinds := [.sentinel, .sentinel], laidTests := true, laidLooks := .later }
def EngineMatchesReferenceUptoCardSaid : Prop := Claim7.holds Tryz.pinned (.plain (OpenSpec.upto engineMatchesReferenceSpec)) engineMatchesReferenceUptoCard
end Rows
end Go.Proofs.YtgjogglfnkgapaaGreatDoor
