/-
  DERIVED. GIVEN WITH THE SEED: THE CARDS: each row of YtbbpkdlehlamlaaGreatDoorRows.lean that lists a variable, with what it lists TIED to the program's text (the seventh form; the later family's looks); each row that meets fmt, with fmt's text TOLD by the authors' own Lean function (tested against real Go, not proved from fmt's source: count such statements apart). THE CARD IS WHAT COUNTS. Prove the row's statement (the work); the ties are given (YtbbpkdlehlamlaaGreatDoorTie.lean); close each card by the builder's one call (the guide's Derived/Test/ToyasCard.lean, 'card_holds'). Laid BY PROGRAM, IN A SANDBOX (cutbox-door.mjs). By AI agents, Wed Nov 11 2026. No macro, syntax, notation, axiom, sorry.
-/
import Derived.Test.YtbbpkdlehlamlaaGreatDoorRows
import GoSem.ClaimSeven
namespace Go.Proofs.YtbbpkdlehlamlaaGreatDoor
namespace Rows

/-- THE TIED CARD OF 'cleanroomlaw21.EngineLocal'. -/
def engineLocalCard : Claim7 := { stood := { row := engineLocalRow, standIns := [], harness := (true, "f61bcd61f4970c1186405ef89e47a4d702df3ae90ef7136eb597f9787c5117a3"), looks := true }, kinds := [], alts := [], laidByText := true, laidKinds := [.sentinel, .sentinel], laidTests := true, laidLooks := .later }
def EngineLocalCardSaid : Prop := Claim7.holds Tryz.pinned (.plain (OpenSpec.ofChange engineLocalSpec)) engineLocalCard

/-- THE TIED CARD OF 'cleanroomlaw21.EngineLate'. -/
def engineLateCard : Claim7 := { stood := { row := engineLateRow, standIns := [], harness := (true, "f61bcd61f4970c1186405ef89e47a4d702df3ae90ef7136eb597f9787c5117a3"), looks := true }, kinds := [], alts := [], laidByText := true, laidKinds := [.sentinel, .sentinel], laidTests := true, laidLooks := .later }
def EngineLateCardSaid : Prop := Claim7.holds Tryz.pinned (.plain (OpenSpec.ofChange engineLateSpec)) engineLateCard

/-- THE TIED CARD OF 'cleanroomlaw21.EngineMatchesReference'. -/
def engineMatchesReferenceCard : Claim7 := { stood := { row := engineMatchesReferenceRow, standIns := [], harness := (true, "f61bcd61f4970c1186405ef89e47a4d702df3ae90ef7136eb597f9787c5117a3"), looks := true }, kinds := [], alts := [], laidByText := true, laidKinds := [.sentinel, .sentinel], laidTests := true, laidLooks := .later }
def EngineMatchesReferenceCardSaid : Prop := Claim7.holds Tryz.pinned (.plain (OpenSpec.ofChange engineMatchesReferenceSpec)) engineMatchesReferenceCard

/-- THE TIED CARD OF 'cleanroomlaw21.EngineAnew'. -/
def engineAnewCard : Claim7 := { stood := { row := engineAnewRow, standIns := [], harness := (true, "f61bcd61f4970c1186405ef89e47a4d702df3ae90ef7136eb597f9787c5117a3"), looks := true }, kinds := [], alts := [], laidByText := true, laidKinds := [.sentinel, .sentinel], laidTests := true, laidLooks := .later }
def EngineAnewCardSaid : Prop := Claim7.holds Tryz.pinned (.plain (OpenSpec.ofChange engineAnewSpec)) engineAnewCard

/-- THE TIED CARD OF 'cleanroomlaw21.EngineOrder'. -/
def engineOrderCard : Claim7 := { stood := { row := engineOrderRow, standIns := [], harness := (true, "f61bcd61f4970c1186405ef89e47a4d702df3ae90ef7136eb597f9787c5117a3"), looks := true }, kinds := [], alts := [], laidByText := true, laidKinds := [.sentinel, .sentinel], laidTests := true, laidLooks := .later }
def EngineOrderCardSaid : Prop := Claim7.holds Tryz.pinned (.plain (OpenSpec.ofChange engineOrderSpec)) engineOrderCard

/-- THE TIED CARD OF 'cleanroomlaw21.EngineTwice'. -/
def engineTwiceCard : Claim7 := { stood := { row := engineTwiceRow, standIns := [], harness := (true, "f61bcd61f4970c1186405ef89e47a4d702df3ae90ef7136eb597f9787c5117a3"), looks := true }, kinds := [], alts := [], laidByText := true, laidKinds := [.sentinel, .sentinel], laidTests := true, laidLooks := .later }
def EngineTwiceCardSaid : Prop := Claim7.holds Tryz.pinned (.plain (OpenSpec.ofChange engineTwiceSpec)) engineTwiceCard

/-- THE TIED CARD OF 'cleanroomlaw21.EngineOwns'. -/
def engineOwnsCard : Claim7 := { stood := { row := engineOwnsRow, standIns := [], harness := (true, "f61bcd61f4970c1186405ef89e47a4d702df3ae90ef7136eb597f9787c5117a3"), looks := true }, kinds := [], alts := [], laidByText := true, laidKinds := [.sentinel, .sentinel], laidTests := true, laidLooks := .later }
def EngineOwnsCardSaid : Prop := Claim7.holds Tryz.pinned (.plain (OpenSpec.ofChange engineOwnsSpec)) engineOwnsCard

/-- THE SECOND FORM's CARD OF 'cleanroomlaw21.EngineLocal'. -/
def engineLocalUptoCard : Claim7 := { stood := { row := engineLocalUptoRow, standIns := [], harness := (true, "f61bcd61f4970c1186405ef89e47a4d702df3ae90ef7136eb597f9787c5117a3"), looks := true }, kinds := [], alts := [], laidByText := true, laidKinds := [.sentinel, .sentinel], laidTests := true, laidLooks := .later }
def EngineLocalUptoCardSaid : Prop := Claim7.holds Tryz.pinned (.plain (OpenSpec.upto engineLocalSpec)) engineLocalUptoCard

/-- THE SECOND FORM's CARD OF 'cleanroomlaw21.EngineLate'. -/
def engineLateUptoCard : Claim7 := { stood := { row := engineLateUptoRow, standIns := [], harness := (true, "f61bcd61f4970c1186405ef89e47a4d702df3ae90ef7136eb597f9787c5117a3"), looks := true }, kinds := [], alts := [], laidByText := true, laidKinds := [.sentinel, .sentinel], laidTests := true, laidLooks := .later }
def EngineLateUptoCardSaid : Prop := Claim7.holds Tryz.pinned (.plain (OpenSpec.upto engineLateSpec)) engineLateUptoCard

/-- THE SECOND FORM's CARD OF 'cleanroomlaw21.EngineMatchesReference'. -/
def engineMatchesReferenceUptoCard : Claim7 := { stood := { row := engineMatchesReferenceUptoRow, standIns := [], harness := (true, "f61bcd61f4970c1186405ef89e47a4d702df3ae90ef7136eb597f9787c5117a3"), looks := true }, kinds := [], alts := [], laidByText := true, laidKinds := [.sentinel, .sentinel], laidTests := true, laidLooks := .later }
def EngineMatchesReferenceUptoCardSaid : Prop := Claim7.holds Tryz.pinned (.plain (OpenSpec.upto engineMatchesReferenceSpec)) engineMatchesReferenceUptoCard

/-- THE SECOND FORM's CARD OF 'cleanroomlaw21.EngineAnew'. -/
def engineAnewUptoCard : Claim7 := { stood := { row := engineAnewUptoRow, standIns := [], harness := (true, "f61bcd61f4970c1186405ef89e47a4d702df3ae90ef7136eb597f9787c5117a3"), looks := true }, kinds := [], alts := [], laidByText := true, laidKinds := [.sentinel, .sentinel], laidTests := true, laidLooks := .later }
def EngineAnewUptoCardSaid : Prop := Claim7.holds Tryz.pinned (.plain (OpenSpec.upto engineAnewSpec)) engineAnewUptoCard

/-- THE SECOND FORM's CARD OF 'cleanroomlaw21.EngineOrder'. -/
def engineOrderUptoCard : Claim7 := { stood := { row := engineOrderUptoRow, standIns := [], harness := (true, "f61bcd61f4970c1186405ef89e47a4d702df3ae90ef7136eb597f9787c5117a3"), looks := true }, kinds := [], alts := [], laidByText := true, laidKinds := [.sentinel, .sentinel], laidTests := true, laidLooks := .later }
def EngineOrderUptoCardSaid : Prop := Claim7.holds Tryz.pinned (.plain (OpenSpec.upto engineOrderSpec)) engineOrderUptoCard

/-- THE SECOND FORM's CARD OF 'cleanroomlaw21.EngineTwice'. -/
def engineTwiceUptoCard : Claim7 := { stood := { row := engineTwiceUptoRow, standIns := [], harness := (true, "f61bcd61f4970c1186405ef89e47a4d702df3ae90ef7136eb597f9787c5117a3"), looks := true }, kinds := [], alts := [], laidByText := true, laidKinds := [.sentinel, .sentinel], laidTests := true, laidLooks := .later }
def EngineTwiceUptoCardSaid : Prop := Claim7.holds Tryz.pinned (.plain (OpenSpec.upto engineTwiceSpec)) engineTwiceUptoCard

/-- THE SECOND FORM's CARD OF 'cleanroomlaw21.EngineOwns'. -/
def engineOwnsUptoCard : Claim7 := { stood := { row := engineOwnsUptoRow, standIns := [], harness := (true, "f61bcd61f4970c1186405ef89e47a4d702df3ae90ef7136eb597f9787c5117a3"), looks := true }, kinds := [], alts := [], laidByText := true, laidKinds := [.sentinel, .sentinel], laidTests := true, laidLooks := .later }
def EngineOwnsUptoCardSaid : Prop := Claim7.holds Tryz.pinned (.plain (OpenSpec.upto engineOwnsSpec)) engineOwnsUptoCard
end Rows
end Go.Proofs.YtbbpkdlehlamlaaGreatDoor
