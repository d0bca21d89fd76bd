/-
  DERIVED. GIVEN WITH THE SEED: THE CARDS: each row of YtgffaeachbbjoaaGreatDoorRows.lean that lists a variable, with what it lists TIED to the program's text (the seventh form; the later family's looks); each row that meets fmt, with fmt's text TOLD by the authors' own Lean function (tested against real Go, not proved from fmt's source: count such statements apart). THE CARD IS WHAT COUNTS. Prove the row's statement (the work); the ties are given (YtgffaeachbbjoaaGreatDoorTie.lean); close each card by the builder's one call (the guide's Derived/Test/ToyasCard.lean, 'card_holds'). Laid BY PROGRAM, IN A SANDBOX (cutbox-door.mjs). By AI agents, Wed Nov 11 2026. No macro, syntax, notation, axiom, sorry.
-/
import Derived.Test.YtgffaeachbbjoaaGreatDoorRows
import GoSem.ClaimSeven
namespace Go.Proofs.YtgffaeachbbjoaaGreatDoor
namespace Rows

/-- THE TIED CARD OF 'cleanroomlaw20.ControlMatchesReference'. -/
def controlMatchesReferenceCard : Claim7 := { stood := { row := controlMatchesReferenceRow, standIns := [], harness := (true, "c04494c46022fb2d9657f11b15a0c9a76de26dc2aaf44fcb380df7d651b983b1"), looks := true }, kinds := [], alts := [], laidByText := true, laidKinds := [.sentinel, .sentinel], laidTests := true, laidLooks := .later }
def ControlMatchesReferenceCardSaid : Prop := Claim7.holds Tryz.pinned (.plain (OpenSpec.ofChange controlMatchesReferenceSpec)) controlMatchesReferenceCard

/-- THE TIED CARD OF 'cleanroomlaw20.ControlLate'. -/
def controlLateCard : Claim7 := { stood := { row := controlLateRow, standIns := [], harness := (true, "c04494c46022fb2d9657f11b15a0c9a76de26dc2aaf44fcb380df7d651b983b1"), looks := true }, kinds := [], alts := [], laidByText := true, laidKinds := [.sentinel, .sentinel], laidTests := true, laidLooks := .later }
def ControlLateCardSaid : Prop := Claim7.holds Tryz.pinned (.plain (OpenSpec.ofChange controlLateSpec)) controlLateCard

/-- THE TIED CARD OF 'cleanroomlaw20.ControlOthers'. -/
def controlOthersCard : Claim7 := { stood := { row := controlOthersRow, standIns := [], harness := (true, "c04494c46022fb2d9657f11b15a0c9a76de26dc2aaf44fcb380df7d651b983b1"), looks := true }, kinds := [], alts := [], laidByText := true, laidKinds := [.sentinel, .sentinel], laidTests := true, laidLooks := .later }
def ControlOthersCardSaid : Prop := Claim7.holds Tryz.pinned (.plain (OpenSpec.ofChange controlOthersSpec)) controlOthersCard

/-- THE TIED CARD OF 'cleanroomlaw20.ControlReset'. -/
def controlResetCard : Claim7 := { stood := { row := controlResetRow, standIns := [], harness := (true, "c04494c46022fb2d9657f11b15a0c9a76de26dc2aaf44fcb380df7d651b983b1"), looks := true }, kinds := [], alts := [], laidByText := true, laidKinds := [.sentinel, .sentinel], laidTests := true, laidLooks := .later }
def ControlResetCardSaid : Prop := Claim7.holds Tryz.pinned (.plain (OpenSpec.ofChange controlResetSpec)) controlResetCard

/-- THE TIED CARD OF 'cleanroomlaw20.ControlBounds'. -/
def controlBoundsCard : Claim7 := { stood := { row := controlBoundsRow, standIns := [], harness := (true, "c04494c46022fb2d9657f11b15a0c9a76de26dc2aaf44fcb380df7d651b983b1"), looks := true }, kinds := [], alts := [], laidByText := true, laidKinds := [.sentinel, .sentinel], laidTests := true, laidLooks := .later }
def ControlBoundsCardSaid : Prop := Claim7.holds Tryz.pinned (.plain (OpenSpec.ofChange controlBoundsSpec)) controlBoundsCard

/-- THE TIED CARD OF 'cleanroomlaw20.ControlNext'. -/
def controlNextCard : Claim7 := { stood := { row := controlNextRow, standIns := [], harness := (true, "c04494c46022fb2d9657f11b15a0c9a76de26dc2aaf44fcb380df7d651b983b1"), looks := true }, kinds := [], alts := [], laidByText := true, laidKinds := [.sentinel, .sentinel], laidTests := true, laidLooks := .later }
def ControlNextCardSaid : Prop := Claim7.holds Tryz.pinned (.plain (OpenSpec.ofChange controlNextSpec)) controlNextCard

/-- THE TIED CARD OF 'cleanroomlaw20.ControlDays'. -/
def controlDaysCard : Claim7 := { stood := { row := controlDaysRow, standIns := [], harness := (true, "c04494c46022fb2d9657f11b15a0c9a76de26dc2aaf44fcb380df7d651b983b1"), looks := true }, kinds := [], alts := [], laidByText := true, laidKinds := [.sentinel, .sentinel], laidTests := true, laidLooks := .later }
def ControlDaysCardSaid : Prop := Claim7.holds Tryz.pinned (.plain (OpenSpec.ofChange controlDaysSpec)) controlDaysCard

/-- THE SECOND FORM's CARD OF 'cleanroomlaw20.ControlMatchesReference'. -/
def controlMatchesReferenceUptoCard : Claim7 := { stood := { row := controlMatchesReferenceUptoRow, standIns := [], harness := (true, "c04494c46022fb2d9657f11b15a0c9a76de26dc2aaf44fcb380df7d651b983b1"), looks := true }, kinds := [], alts := [], laidByText := true, laidKinds := [.sentinel, .sentinel], laidTests := true, laidLooks := .later }
def ControlMatchesReferenceUptoCardSaid : Prop := Claim7.holds Tryz.pinned (.plain (OpenSpec.upto controlMatchesReferenceSpec)) controlMatchesReferenceUptoCard

/-- THE SECOND FORM's CARD OF 'cleanroomlaw20.ControlLate'. -/
def controlLateUptoCard : Claim7 := { stood := { row := controlLateUptoRow, standIns := [], harness := (true, "c04494c46022fb2d9657f11b15a0c9a76de26dc2aaf44fcb380df7d651b983b1"), looks := true }, kinds := [], alts := [], laidByText := true, laidKinds := [.sentinel, .sentinel], laidTests := true, laidLooks := .later }
def ControlLateUptoCardSaid : Prop := Claim7.holds Tryz.pinned (.plain (OpenSpec.upto controlLateSpec)) controlLateUptoCard

/-- THE SECOND FORM's CARD OF 'cleanroomlaw20.ControlOthers'. -/
def controlOthersUptoCard : Claim7 := { stood := { row := controlOthersUptoRow, standIns := [], harness := (true, "c04494c46022fb2d9657f11b15a0c9a76de26dc2aaf44fcb380df7d651b983b1"), looks := true }, kinds := [], alts := [], laidByText := true, laidKinds := [.sentinel, .sentinel], laidTests := true, laidLooks := .later }
def ControlOthersUptoCardSaid : Prop := Claim7.holds Tryz.pinned (.plain (OpenSpec.upto controlOthersSpec)) controlOthersUptoCard

/-- THE SECOND FORM's CARD OF 'cleanroomlaw20.ControlReset'. -/
def controlResetUptoCard : Claim7 := { stood := { row := controlResetUptoRow, standIns := [], harness := (true, "c04494c46022fb2d9657f11b15a0c9a76de26dc2aaf44fcb380df7d651b983b1"), looks := true }, kinds := [], alts := [], laidByText := true, laidKinds := [.sentinel, .sentinel], laidTests := true, laidLooks := .later }
def ControlResetUptoCardSaid : Prop := Claim7.holds Tryz.pinned (.plain (OpenSpec.upto controlResetSpec)) controlResetUptoCard

/-- THE SECOND FORM's CARD OF 'cleanroomlaw20.ControlBounds'. -/
def controlBoundsUptoCard : Claim7 := { stood := { row := controlBoundsUptoRow, standIns := [], harness := (true, "c04494c46022fb2d9657f11b15a0c9a76de26dc2aaf44fcb380df7d651b983b1"), looks := true }, kinds := [], alts := [], laidByText := true, laidKinds := [.sentinel, .sentinel], laidTests := true, laidLooks := .later }
def ControlBoundsUptoCardSaid : Prop := Claim7.holds Tryz.pinned (.plain (OpenSpec.upto controlBoundsSpec)) controlBoundsUptoCard

/-- THE SECOND FORM's CARD OF 'cleanroomlaw20.ControlNext'. -/
def controlNextUptoCard : Claim7 := { stood := { row := controlNextUptoRow, standIns := [], harness := (true, "c04494c46022fb2d9657f11b15a0c9a76de26dc2aaf44fcb380df7d651b983b1"), looks := true }, kinds := [], alts := [], laidByText := true, laidKinds := [.sentinel, .sentinel], laidTests := true, laidLooks := .later }
def ControlNextUptoCardSaid : Prop := Claim7.holds Tryz.pinned (.plain (OpenSpec.upto controlNextSpec)) controlNextUptoCard

/-- THE SECOND FORM's CARD OF 'cleanroomlaw20.ControlDays'. -/
def controlDaysUptoCard : Claim7 := { stood := { row := controlDaysUptoRow, standIns := [], harness := (true, "c04494c46022fb2d9657f11b15a0c9a76de26dc2aaf44fcb380df7d651b983b1"), looks := true }, kinds := [], alts := [], laidByText := true, laidKinds := [.sentinel, .sentinel], laidTests := true, laidLooks := .later }
def ControlDaysUptoCardSaid : Prop := Claim7.holds Tryz.pinned (.plain (OpenSpec.upto controlDaysSpec)) controlDaysUptoCard
end Rows
end Go.Proofs.YtgffaeachbbjoaaGreatDoor
