/-
  DERIVED. GIVEN WITH THE SEED: THE CARDS: each row of YthcabjphnacjeaaGreatDoorRows.lean that lists a variable, with what it lists TIED to the program's text (the seventh form; the later family's looks); each row that meets fmt, with fmt's text TOLD by the authors' own Lean function (tested against real Go, not proved from fmt's source: count such statements apart). THE CARD IS WHAT COUNTS. Prove the row's statement (the work); the ties are given (YthcabjphnacjeaaGreatDoorTie.lean); close each card by the builder's one call (the guide's Derived/Test/ToyasCard.lean, 'card_holds'). Laid BY PROGRAM, IN A SANDBOX (cutbox-door.mjs). By AI agents, Wed Nov 11 2026. No macro, syntax, notation, axiom, sorry.
-/
import Derived.Test.YthcabjphnacjeaaGreatDoorRows
import GoSem.ClaimSeven
namespace Go.Proofs.YthcabjphnacjeaaGreatDoor
namespace Rows

/-- THE TIED CARD OF 'cleanroomtop.TopRework'. -/
def topReworkCard : Claim7 := { stood := { row := topReworkRow, standIns := [], harness := (true, "357b4b6f7cbc85b43f9d76df8a136765e32acac6f7c40162f4c296a2fca40360"), looks := true }, kinds := [], alts := [], laidByText := true, laidKinds := [.data, .data, .data, .data, .sentinel, .sentinel, .pinned], laidTests := true, laidLooks := .later }
def TopReworkCardSaid : Prop := Claim7.holds Tryz.pinned (.plain (OpenSpec.ofChange topReworkSpec)) topReworkCard

/-- THE SECOND FORM's CARD OF 'cleanroomtop.TopRework'. -/
def topReworkUptoCard : Claim7 := { stood := { row := topReworkUptoRow, standIns := [], harness := (true, "357b4b6f7cbc85b43f9d76df8a136765e32acac6f7c40162f4c296a2fca40360"), looks := true }, kinds := [], alts := [], laidByText := true, laidKinds := [.data, .data, .data, .data, .sentinel, .sentinel, .pinned], laidTests := true, laidLooks := .later }
def TopReworkUptoCardSaid : Prop := Claim7.holds Tryz.pinned (.plain (OpenSpec.upto topReworkSpec)) topReworkUptoCard
end Rows
end Go.Proofs.YthcabjphnacjeaaGreatDoor
