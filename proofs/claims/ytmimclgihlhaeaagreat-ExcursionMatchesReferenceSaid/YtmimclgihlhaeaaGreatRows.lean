/-
  No cell of these rows narrows 'for every input' (looked for: loops, veiled, ifaces, maps, wideKeys, modest, calm, conditions, laid).
  DERIVED. THE GIVEN ROWS OF THIS SEAT. 7 by the template 'for every input the law returns true; each argument reads behind the call as it read before'; 0 by the template 'total and deterministic' (their statements: YtmimclgihlhaeaaGreatTotals.lean).
  GIVEN WITH THE SEED: the statements are not yours to turn. If you find one false, say at which input.
  Laid BY PROGRAM, IN A SANDBOX (cutbox-rows.mjs): the forced cells as the released guide's own fill.sh prints them over the translation 3ae6b65a22cb2a6d… (all of the seat's roots in one cut). By AI agents, Wed Nov 11 2026. No macro, syntax, notation, axiom, sorry.
-/
import Derived.Test.YtmimclgihlhaeaaGreatChecked
import GoSem.Claim
import GoSem.ClaimJoined
import GoSem.ClaimMapViews
import Derived.JoinedTies
import Derived.KernelRfl
namespace Go.Proofs.YtmimclgihlhaeaaGreat
/- THE CELL 'sum', in the pinned program and in every row, IS THE sha256 OF THE DUMP (.gsa) THAT YtmimclgihlhaeaaGreatProg.lean LOADS. Nothing in Lean hashes anything: it is a label: what it is worth is what the hold of that sum in a sandbox is worth. -/
noncomputable def Tryz.pinned : Pinned := { name := "ytmimclgihlhaeaagreat", sum := "3ae6b65a22cb2a6d7948e9193f91b0f76661586439e1b0064e17e759f273c347", checked := Tryz.checked }
namespace Rows
def none {H : Type} : Left H := { results := [], args := [] }

/-- 'cleanroomlaw22.ExcursionMatchesReference': WHATEVER THE INPUT: true; the input reads as it did. -/
def excursionMatchesReferenceSpec : ChangeSpec := { name := "excursionMatchesReference", fn := fun _ => fun
  | [d1, d2, d3, d4, d5] => { results := [.lit (.bool true)], args := [d1, d2, d3, d4, d5] }
  | _ => none }
def excursionMatchesReferenceRow : OpenClaim := { program := "ytmimclgihlhaeaagreat", sum := "3ae6b65a22cb2a6d7948e9193f91b0f76661586439e1b0064e17e759f273c347", func := "cleanroom/cleanroomlaw22.ExcursionMatchesReference", spec := "excursionMatchesReference", inPlace := ["internal/abi.NoEscape", "internal/bytealg.abigen_runtime_cmpstring"], unfollowed := true, recurses := true, plainKeys := false, apart := false }
def ExcursionMatchesReferenceSaid : Prop := excursionMatchesReferenceRow.holds Tryz.pinned (OpenSpec.ofChange excursionMatchesReferenceSpec)

/-- ITS FALSE NEIGHBOUR: 'it returns false'. Refute it at one input. -/
def excursionMatchesReferenceWrong : ChangeSpec := { name := "excursionMatchesReference", fn := fun _ => fun
  | [d1, d2, d3, d4, d5] => { results := [.lit (.bool false)], args := [d1, d2, d3, d4, d5] }
  | _ => none }
def ExcursionMatchesReferenceWrongFalsely : Prop := excursionMatchesReferenceRow.holds Tryz.pinned (OpenSpec.ofChange excursionMatchesReferenceWrong)

/-- 'cleanroomlaw22.ExcursionContains': WHATEVER THE INPUT: true; the input reads as it did. -/
def excursionContainsSpec : ChangeSpec := { name := "excursionContains", fn := fun _ => fun
  | [d1, d2, d3] => { results := [.lit (.bool true)], args := [d1, d2, d3] }
  | _ => none }
def excursionContainsRow : OpenClaim := { program := "ytmimclgihlhaeaagreat", sum := "3ae6b65a22cb2a6d7948e9193f91b0f76661586439e1b0064e17e759f273c347", func := "cleanroom/cleanroomlaw22.ExcursionContains", spec := "excursionContains", inPlace := ["internal/abi.NoEscape", "internal/bytealg.abigen_runtime_cmpstring"], unfollowed := true, recurses := true, plainKeys := false, apart := false }
def ExcursionContainsSaid : Prop := excursionContainsRow.holds Tryz.pinned (OpenSpec.ofChange excursionContainsSpec)

/-- ITS FALSE NEIGHBOUR: 'it returns false'. Refute it at one input. -/
def excursionContainsWrong : ChangeSpec := { name := "excursionContains", fn := fun _ => fun
  | [d1, d2, d3] => { results := [.lit (.bool false)], args := [d1, d2, d3] }
  | _ => none }
def ExcursionContainsWrongFalsely : Prop := excursionContainsRow.holds Tryz.pinned (OpenSpec.ofChange excursionContainsWrong)

/-- 'cleanroomlaw22.ExcursionExact': WHATEVER THE INPUT: true; the input reads as it did. -/
def excursionExactSpec : ChangeSpec := { name := "excursionExact", fn := fun _ => fun
  | [d1, d2] => { results := [.lit (.bool true)], args := [d1, d2] }
  | _ => none }
def excursionExactRow : OpenClaim := { program := "ytmimclgihlhaeaagreat", sum := "3ae6b65a22cb2a6d7948e9193f91b0f76661586439e1b0064e17e759f273c347", func := "cleanroom/cleanroomlaw22.ExcursionExact", spec := "excursionExact", inPlace := ["internal/abi.NoEscape", "internal/bytealg.abigen_runtime_cmpstring"], unfollowed := true, recurses := true, plainKeys := false, apart := false }
def ExcursionExactSaid : Prop := excursionExactRow.holds Tryz.pinned (OpenSpec.ofChange excursionExactSpec)

/-- ITS FALSE NEIGHBOUR: 'it returns false'. Refute it at one input. -/
def excursionExactWrong : ChangeSpec := { name := "excursionExact", fn := fun _ => fun
  | [d1, d2] => { results := [.lit (.bool false)], args := [d1, d2] }
  | _ => none }
def ExcursionExactWrongFalsely : Prop := excursionExactRow.holds Tryz.pinned (OpenSpec.ofChange excursionExactWrong)

/-- 'cleanroomlaw22.ExcursionNarrower': WHATEVER THE INPUT: true; the input reads as it did. -/
def excursionNarrowerSpec : ChangeSpec := { name := "excursionNarrower", fn := fun _ => fun
  | [d1, d2, d3, d4, d5] => { results := [.lit (.bool true)], args := [d1, d2, d3, d4, d5] }
  | _ => none }
def excursionNarrowerRow : OpenClaim := { program := "ytmimclgihlhaeaagreat", sum := "3ae6b65a22cb2a6d7948e9193f91b0f76661586439e1b0064e17e759f273c347", func := "cleanroom/cleanroomlaw22.ExcursionNarrower", spec := "excursionNarrower", inPlace := ["internal/abi.NoEscape", "internal/bytealg.abigen_runtime_cmpstring"], unfollowed := true, recurses := true, plainKeys := false, apart := false }
def ExcursionNarrowerSaid : Prop := excursionNarrowerRow.holds Tryz.pinned (OpenSpec.ofChange excursionNarrowerSpec)

/-- ITS FALSE NEIGHBOUR: 'it returns false'. Refute it at one input. -/
def excursionNarrowerWrong : ChangeSpec := { name := "excursionNarrower", fn := fun _ => fun
  | [d1, d2, d3, d4, d5] => { results := [.lit (.bool false)], args := [d1, d2, d3, d4, d5] }
  | _ => none }
def ExcursionNarrowerWrongFalsely : Prop := excursionNarrowerRow.holds Tryz.pinned (OpenSpec.ofChange excursionNarrowerWrong)

/-- 'cleanroomlaw22.ExcursionLocal': WHATEVER THE INPUT: true; the input reads as it did. -/
def excursionLocalSpec : ChangeSpec := { name := "excursionLocal", fn := fun _ => fun
  | [d1, d2, d3, d4] => { results := [.lit (.bool true)], args := [d1, d2, d3, d4] }
  | _ => none }
def excursionLocalRow : OpenClaim := { program := "ytmimclgihlhaeaagreat", sum := "3ae6b65a22cb2a6d7948e9193f91b0f76661586439e1b0064e17e759f273c347", func := "cleanroom/cleanroomlaw22.ExcursionLocal", spec := "excursionLocal", inPlace := ["internal/abi.NoEscape", "internal/bytealg.abigen_runtime_cmpstring"], unfollowed := true, recurses := true, plainKeys := false, apart := false }
def ExcursionLocalSaid : Prop := excursionLocalRow.holds Tryz.pinned (OpenSpec.ofChange excursionLocalSpec)

/-- ITS FALSE NEIGHBOUR: 'it returns false'. Refute it at one input. -/
def excursionLocalWrong : ChangeSpec := { name := "excursionLocal", fn := fun _ => fun
  | [d1, d2, d3, d4] => { results := [.lit (.bool false)], args := [d1, d2, d3, d4] }
  | _ => none }
def ExcursionLocalWrongFalsely : Prop := excursionLocalRow.holds Tryz.pinned (OpenSpec.ofChange excursionLocalWrong)

/-- 'cleanroomlaw22.ExcursionCorrected': WHATEVER THE INPUT: true; the input reads as it did. -/
def excursionCorrectedSpec : ChangeSpec := { name := "excursionCorrected", fn := fun _ => fun
  | [d1, d2, d3, d4, d5, d6] => { results := [.lit (.bool true)], args := [d1, d2, d3, d4, d5, d6] }
  | _ => none }
def excursionCorrectedRow : OpenClaim := { program := "ytmimclgihlhaeaagreat", sum := "3ae6b65a22cb2a6d7948e9193f91b0f76661586439e1b0064e17e759f273c347", func := "cleanroom/cleanroomlaw22.ExcursionCorrected", spec := "excursionCorrected", inPlace := ["internal/abi.NoEscape", "internal/bytealg.abigen_runtime_cmpstring"], unfollowed := true, recurses := true, plainKeys := false, apart := false }
def ExcursionCorrectedSaid : Prop := excursionCorrectedRow.holds Tryz.pinned (OpenSpec.ofChange excursionCorrectedSpec)

/-- ITS FALSE NEIGHBOUR: 'it returns false'. Refute it at one input. -/
def excursionCorrectedWrong : ChangeSpec := { name := "excursionCorrected", fn := fun _ => fun
  | [d1, d2, d3, d4, d5, d6] => { results := [.lit (.bool false)], args := [d1, d2, d3, d4, d5, d6] }
  | _ => none }
def ExcursionCorrectedWrongFalsely : Prop := excursionCorrectedRow.holds Tryz.pinned (OpenSpec.ofChange excursionCorrectedWrong)

/-- 'cleanroomlaw22.ExcursionTests': WHATEVER THE INPUT: true; the input reads as it did. -/
def excursionTestsSpec : ChangeSpec := { name := "excursionTests", fn := fun _ => fun
  | [d1, d2] => { results := [.lit (.bool true)], args := [d1, d2] }
  | _ => none }
def excursionTestsRow : OpenClaim := { program := "ytmimclgihlhaeaagreat", sum := "3ae6b65a22cb2a6d7948e9193f91b0f76661586439e1b0064e17e759f273c347", func := "cleanroom/cleanroomlaw22.ExcursionTests", spec := "excursionTests", inPlace := ["internal/abi.NoEscape", "internal/bytealg.abigen_runtime_cmpstring"], unfollowed := true, recurses := true, plainKeys := false, apart := false }
def ExcursionTestsSaid : Prop := excursionTestsRow.holds Tryz.pinned (OpenSpec.ofChange excursionTestsSpec)

/-- ITS FALSE NEIGHBOUR: 'it returns false'. Refute it at one input. -/
def excursionTestsWrong : ChangeSpec := { name := "excursionTests", fn := fun _ => fun
  | [d1, d2] => { results := [.lit (.bool false)], args := [d1, d2] }
  | _ => none }
def ExcursionTestsWrongFalsely : Prop := excursionTestsRow.holds Tryz.pinned (OpenSpec.ofChange excursionTestsWrong)

/- THE SECOND FORM. 'bulk': how many values and letters a reading holds, each counted each time it is reached (what is shared counts as often as it is met; a slice's spare places count too). A statement '..UptoSaid' is the law's where the arguments, and the package variables that the reading takes, are together of bulk at most 1048576: NARROWER than '..Said'. Prove '..Said' where nothing that the law and all that it calls make is longer than what came in: it says more and counts as full. Else prove '..UptoSaid'. A law counts once. -/
mutual
def uptoBulk {H : Type} : DataW H → Nat
  | .lit (.string bytes) => bytes.length + 1
  | .lit _ => 1
  | .nil => 1
  | .ptr d => uptoBulk d + 1
  | .slice elems spare => uptoBulkAll elems + uptoBulkAll spare + 1
  | .agg parts => uptoBulkAll parts + 1
  | .iface _ d => uptoBulk d + 1
  | .map entries => uptoBulkEntries entries + 1
  | .held _ => 1
def uptoBulkAll {H : Type} : List (DataW H) → Nat
  | [] => 0
  | d :: r => uptoBulk d + uptoBulkAll r
def uptoBulkEntries {H : Type} : List (Lit × DataW H) → Nat
  | [] => 0
  | x :: r => uptoBulkEntry x + uptoBulkEntries r
def uptoBulkEntry {H : Type} : Lit × DataW H → Nat
  | (.string bytes, d) => bytes.length + uptoBulk d + 1
  | (_, d) => uptoBulk d + 1
 end
def uptoSmall : (H : Type) → List (DataW H) → Bool := fun _ ds => decide (uptoBulkAll ds ≤ 1048576)
def OpenSpec.upto (s : _root_.Go.ChangeSpec) : _root_.Go.OpenSpec := { _root_.Go.OpenSpec.ofChange s with cond := some uptoSmall }

/-- 'cleanroomlaw22.ExcursionMatchesReference', WHERE WHAT IT READS IS OF BULK AT MOST 1048576: true; the input reads as it did. -/
def excursionMatchesReferenceUptoRow : OpenClaim := { program := "ytmimclgihlhaeaagreat", sum := "3ae6b65a22cb2a6d7948e9193f91b0f76661586439e1b0064e17e759f273c347", func := "cleanroom/cleanroomlaw22.ExcursionMatchesReference", spec := "excursionMatchesReference", inPlace := ["internal/abi.NoEscape", "internal/bytealg.abigen_runtime_cmpstring"], unfollowed := true, recurses := true, plainKeys := false, apart := false, narrowed := true }
def ExcursionMatchesReferenceUptoSaid : Prop := excursionMatchesReferenceUptoRow.holds Tryz.pinned (OpenSpec.upto excursionMatchesReferenceSpec)

/-- 'cleanroomlaw22.ExcursionContains', WHERE WHAT IT READS IS OF BULK AT MOST 1048576: true; the input reads as it did. -/
def excursionContainsUptoRow : OpenClaim := { program := "ytmimclgihlhaeaagreat", sum := "3ae6b65a22cb2a6d7948e9193f91b0f76661586439e1b0064e17e759f273c347", func := "cleanroom/cleanroomlaw22.ExcursionContains", spec := "excursionContains", inPlace := ["internal/abi.NoEscape", "internal/bytealg.abigen_runtime_cmpstring"], unfollowed := true, recurses := true, plainKeys := false, apart := false, narrowed := true }
def ExcursionContainsUptoSaid : Prop := excursionContainsUptoRow.holds Tryz.pinned (OpenSpec.upto excursionContainsSpec)

/-- 'cleanroomlaw22.ExcursionExact', WHERE WHAT IT READS IS OF BULK AT MOST 1048576: true; the input reads as it did. -/
def excursionExactUptoRow : OpenClaim := { program := "ytmimclgihlhaeaagreat", sum := "3ae6b65a22cb2a6d7948e9193f91b0f76661586439e1b0064e17e759f273c347", func := "cleanroom/cleanroomlaw22.ExcursionExact", spec := "excursionExact", inPlace := ["internal/abi.NoEscape", "internal/bytealg.abigen_runtime_cmpstring"], unfollowed := true, recurses := true, plainKeys := false, apart := false, narrowed := true }
def ExcursionExactUptoSaid : Prop := excursionExactUptoRow.holds Tryz.pinned (OpenSpec.upto excursionExactSpec)

/-- 'cleanroomlaw22.ExcursionNarrower', WHERE WHAT IT READS IS OF BULK AT MOST 1048576: true; the input reads as it did. -/
def excursionNarrowerUptoRow : OpenClaim := { program := "ytmimclgihlhaeaagreat", sum := "3ae6b65a22cb2a6d7948e9193f91b0f76661586439e1b0064e17e759f273c347", func := "cleanroom/cleanroomlaw22.ExcursionNarrower", spec := "excursionNarrower", inPlace := ["internal/abi.NoEscape", "internal/bytealg.abigen_runtime_cmpstring"], unfollowed := true, recurses := true, plainKeys := false, apart := false, narrowed := true }
def ExcursionNarrowerUptoSaid : Prop := excursionNarrowerUptoRow.holds Tryz.pinned (OpenSpec.upto excursionNarrowerSpec)

/-- 'cleanroomlaw22.ExcursionLocal', WHERE WHAT IT READS IS OF BULK AT MOST 1048576: true; the input reads as it did. -/
def excursionLocalUptoRow : OpenClaim := { program := "ytmimclgihlhaeaagreat", sum := "3ae6b65a22cb2a6d7948e9193f91b0f76661586439e1b0064e17e759f273c347", func := "cleanroom/cleanroomlaw22.ExcursionLocal", spec := "excursionLocal", inPlace := ["internal/abi.NoEscape", "internal/bytealg.abigen_runtime_cmpstring"], unfollowed := true, recurses := true, plainKeys := false, apart := false, narrowed := true }
def ExcursionLocalUptoSaid : Prop := excursionLocalUptoRow.holds Tryz.pinned (OpenSpec.upto excursionLocalSpec)

/-- 'cleanroomlaw22.ExcursionCorrected', WHERE WHAT IT READS IS OF BULK AT MOST 1048576: true; the input reads as it did. -/
def excursionCorrectedUptoRow : OpenClaim := { program := "ytmimclgihlhaeaagreat", sum := "3ae6b65a22cb2a6d7948e9193f91b0f76661586439e1b0064e17e759f273c347", func := "cleanroom/cleanroomlaw22.ExcursionCorrected", spec := "excursionCorrected", inPlace := ["internal/abi.NoEscape", "internal/bytealg.abigen_runtime_cmpstring"], unfollowed := true, recurses := true, plainKeys := false, apart := false, narrowed := true }
def ExcursionCorrectedUptoSaid : Prop := excursionCorrectedUptoRow.holds Tryz.pinned (OpenSpec.upto excursionCorrectedSpec)

/-- 'cleanroomlaw22.ExcursionTests', WHERE WHAT IT READS IS OF BULK AT MOST 1048576: true; the input reads as it did. -/
def excursionTestsUptoRow : OpenClaim := { program := "ytmimclgihlhaeaagreat", sum := "3ae6b65a22cb2a6d7948e9193f91b0f76661586439e1b0064e17e759f273c347", func := "cleanroom/cleanroomlaw22.ExcursionTests", spec := "excursionTests", inPlace := ["internal/abi.NoEscape", "internal/bytealg.abigen_runtime_cmpstring"], unfollowed := true, recurses := true, plainKeys := false, apart := false, narrowed := true }
def ExcursionTestsUptoSaid : Prop := excursionTestsUptoRow.holds Tryz.pinned (OpenSpec.upto excursionTestsSpec)

end Rows
end Go.Proofs.YtmimclgihlhaeaaGreat
