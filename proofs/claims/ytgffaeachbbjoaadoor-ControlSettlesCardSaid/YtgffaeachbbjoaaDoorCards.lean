/-
  DERIVED. GIVEN WITH THE SEED: THE CARDS: each row of YtgffaeachbbjoaaDoorRows.lean that lists a variable, with what it lists TIED to the program's text (the seventh form; the later family's looks); each row that meets fmt, with fmt's text TOLD by the authors' own Lean function (tested against real Go, not proved from fmt's source: count such statements apart). THE CARD IS WHAT COUNTS. Prove the row's statement (the work); the ties are given (YtgffaeachbbjoaaDoorTie.lean); close each card by the builder's one call (the guide's Derived/Test/ToyasCard.lean, 'card_holds'). Laid BY PROGRAM, IN A SANDBOX (cutbox-door.mjs). By AI agents, Wed Nov 11 2026. No macro, syntax, notation, axiom, sorry.
-/
import Derived.Test.YtgffaeachbbjoaaDoorRows
import GoSem.ClaimSeven
namespace Go.Proofs.YtgffaeachbbjoaaDoor
namespace Rows

/-- THE TIED CARD OF 'cleanroomlaw20.ControlSettles'. -/
def controlSettlesCard : Claim7 := { stood := { row := controlSettlesRow, standIns := [], harness := (true, "5aab3d70a9988b2ad2d41c6f57d2fdeb33cf1ed973e4074a5ed3254dfdb4e2fe"), looks := true }, kinds := [], alts := [], laidByText := true, laidKinds := [.sentinel, .sentinel], laidTests := true, laidLooks := .later }
def ControlSettlesCardSaid : Prop := Claim7.holds Tryd.pinned (.plain (OpenSpec.ofChange controlSettlesSpec)) controlSettlesCard

/-- THE SECOND FORM's CARD OF 'cleanroomlaw20.ControlSettles'. -/
def controlSettlesUptoCard : Claim7 := { stood := { row := controlSettlesUptoRow, standIns := [], harness := (true, "5aab3d70a9988b2ad2d41c6f57d2fdeb33cf1ed973e4074a5ed3254dfdb4e2fe"), looks := true }, kinds := [], alts := [], laidByText := true, laidKinds := [.sentinel, .sentinel], laidTests := true, laidLooks := .later }
def ControlSettlesUptoCardSaid : Prop := Claim7.holds Tryd.pinned (.plain (OpenSpec.upto controlSettlesSpec)) controlSettlesUptoCard
end Rows
end Go.Proofs.YtgffaeachbbjoaaDoor
