/-
  No cell of these rows narrows 'for every input' (looked for: loops, veiled, ifaces, maps, wideKeys, modest, calm, conditions, laid).
  DERIVED. THE GIVEN ROWS OF THIS SEAT. 8 by the template 'for every input the law returns true; each argument reads behind the call as it read before'; 0 by the template 'total and deterministic' (their statements: YthfjagphcekcbaaGreatTotals.lean).
  GIVEN WITH THE SEED: the statements are not yours to turn. If you find one false, say at which input.
  Laid BY PROGRAM, IN A SANDBOX (cutbox-rows.mjs): the forced cells as the released guide's own fill.sh prints them over the translation 038708d99c4e3806… (all of the seat's roots in one cut). By AI agents, Wed Nov 11 2026. No macro, syntax, notation, axiom, sorry.
-/
import Derived.Test.YthfjagphcekcbaaGreatChecked
import GoSem.Claim
import GoSem.ClaimJoined
import GoSem.ClaimMapViews
import Derived.JoinedTies
import Derived.KernelRfl
namespace Go.Proofs.YthfjagphcekcbaaGreat
/- THE CELL 'sum', in the pinned program and in every row, IS THE sha256 OF THE DUMP (.gsa) THAT YthfjagphcekcbaaGreatProg.lean LOADS. Nothing in Lean hashes anything: it is a label: what it is worth is what the hold of that sum in a sandbox is worth. -/
noncomputable def Tryz.pinned : Pinned := { name := "ythfjagphcekcbaagreat", sum := "038708d99c4e3806abd4eeb218a2f835d2db26d697339b37863c314b23cf9c27", checked := Tryz.checked }
namespace Rows
def none {H : Type} : Left H := { results := [], args := [] }

/-- 'cleanroomlaw17.GenealogyMatchesReference': WHATEVER THE INPUT: true; the input reads as it did. -/
def genealogyMatchesReferenceSpec : ChangeSpec := { name := "genealogyMatchesReference", fn := fun _ => fun
  | [d1, d2, d3, d4, d5, d6] => { results := [.lit (.bool true)], args := [d1, d2, d3, d4, d5, d6] }
  | _ => none }
def genealogyMatchesReferenceRow : OpenClaim := { program := "ythfjagphcekcbaagreat", sum := "038708d99c4e3806abd4eeb218a2f835d2db26d697339b37863c314b23cf9c27", func := "cleanroom/cleanroomlaw17.GenealogyMatchesReference", spec := "genealogyMatchesReference", inPlace := ["internal/abi.NoEscape", "internal/bytealg.abigen_runtime_cmpstring"], unfollowed := true, recurses := true, apart := false }
def GenealogyMatchesReferenceSaid : Prop := genealogyMatchesReferenceRow.holds Tryz.pinned (OpenSpec.ofChange genealogyMatchesReferenceSpec)

/-- ITS FALSE NEIGHBOUR: 'it returns false'. Refute it at one input. -/
def genealogyMatchesReferenceWrong : ChangeSpec := { name := "genealogyMatchesReference", fn := fun _ => fun
  | [d1, d2, d3, d4, d5, d6] => { results := [.lit (.bool false)], args := [d1, d2, d3, d4, d5, d6] }
  | _ => none }
def GenealogyMatchesReferenceWrongFalsely : Prop := genealogyMatchesReferenceRow.holds Tryz.pinned (OpenSpec.ofChange genealogyMatchesReferenceWrong)

/-- 'cleanroomlaw17.GenealogyInverse': WHATEVER THE INPUT: true; the input reads as it did. -/
def genealogyInverseSpec : ChangeSpec := { name := "genealogyInverse", fn := fun _ => fun
  | [d1, d2, d3] => { results := [.lit (.bool true)], args := [d1, d2, d3] }
  | _ => none }
def genealogyInverseRow : OpenClaim := { program := "ythfjagphcekcbaagreat", sum := "038708d99c4e3806abd4eeb218a2f835d2db26d697339b37863c314b23cf9c27", func := "cleanroom/cleanroomlaw17.GenealogyInverse", spec := "genealogyInverse", inPlace := ["internal/abi.NoEscape", "internal/bytealg.abigen_runtime_cmpstring"], unfollowed := true, recurses := true, apart := false }
def GenealogyInverseSaid : Prop := genealogyInverseRow.holds Tryz.pinned (OpenSpec.ofChange genealogyInverseSpec)

/-- ITS FALSE NEIGHBOUR: 'it returns false'. Refute it at one input. -/
def genealogyInverseWrong : ChangeSpec := { name := "genealogyInverse", fn := fun _ => fun
  | [d1, d2, d3] => { results := [.lit (.bool false)], args := [d1, d2, d3] }
  | _ => none }
def GenealogyInverseWrongFalsely : Prop := genealogyInverseRow.holds Tryz.pinned (OpenSpec.ofChange genealogyInverseWrong)

/-- 'cleanroomlaw17.GenealogyHistories': WHATEVER THE INPUT: true; the input reads as it did. -/
def genealogyHistoriesSpec : ChangeSpec := { name := "genealogyHistories", fn := fun _ => fun
  | [d1, d2] => { results := [.lit (.bool true)], args := [d1, d2] }
  | _ => none }
def genealogyHistoriesRow : OpenClaim := { program := "ythfjagphcekcbaagreat", sum := "038708d99c4e3806abd4eeb218a2f835d2db26d697339b37863c314b23cf9c27", func := "cleanroom/cleanroomlaw17.GenealogyHistories", spec := "genealogyHistories", inPlace := ["internal/abi.NoEscape", "internal/bytealg.abigen_runtime_cmpstring"], unfollowed := true, recurses := true, apart := false }
def GenealogyHistoriesSaid : Prop := genealogyHistoriesRow.holds Tryz.pinned (OpenSpec.ofChange genealogyHistoriesSpec)

/-- ITS FALSE NEIGHBOUR: 'it returns false'. Refute it at one input. -/
def genealogyHistoriesWrong : ChangeSpec := { name := "genealogyHistories", fn := fun _ => fun
  | [d1, d2] => { results := [.lit (.bool false)], args := [d1, d2] }
  | _ => none }
def GenealogyHistoriesWrongFalsely : Prop := genealogyHistoriesRow.holds Tryz.pinned (OpenSpec.ofChange genealogyHistoriesWrong)

/-- 'cleanroomlaw17.GenealogySwapped': WHATEVER THE INPUT: true; the input reads as it did. -/
def genealogySwappedSpec : ChangeSpec := { name := "genealogySwapped", fn := fun _ => fun
  | [d1, d2, d3, d4, d5, d6, d7] => { results := [.lit (.bool true)], args := [d1, d2, d3, d4, d5, d6, d7] }
  | _ => none }
def genealogySwappedRow : OpenClaim := { program := "ythfjagphcekcbaagreat", sum := "038708d99c4e3806abd4eeb218a2f835d2db26d697339b37863c314b23cf9c27", func := "cleanroom/cleanroomlaw17.GenealogySwapped", spec := "genealogySwapped", inPlace := ["internal/abi.NoEscape", "internal/bytealg.abigen_runtime_cmpstring"], unfollowed := true, recurses := true, apart := false }
def GenealogySwappedSaid : Prop := genealogySwappedRow.holds Tryz.pinned (OpenSpec.ofChange genealogySwappedSpec)

/-- ITS FALSE NEIGHBOUR: 'it returns false'. Refute it at one input. -/
def genealogySwappedWrong : ChangeSpec := { name := "genealogySwapped", fn := fun _ => fun
  | [d1, d2, d3, d4, d5, d6, d7] => { results := [.lit (.bool false)], args := [d1, d2, d3, d4, d5, d6, d7] }
  | _ => none }
def GenealogySwappedWrongFalsely : Prop := genealogySwappedRow.holds Tryz.pinned (OpenSpec.ofChange genealogySwappedWrong)

/-- 'cleanroomlaw17.GenealogyTails': WHATEVER THE INPUT: true; the input reads as it did. -/
def genealogyTailsSpec : ChangeSpec := { name := "genealogyTails", fn := fun _ => fun
  | [d1, d2, d3, d4] => { results := [.lit (.bool true)], args := [d1, d2, d3, d4] }
  | _ => none }
def genealogyTailsRow : OpenClaim := { program := "ythfjagphcekcbaagreat", sum := "038708d99c4e3806abd4eeb218a2f835d2db26d697339b37863c314b23cf9c27", func := "cleanroom/cleanroomlaw17.GenealogyTails", spec := "genealogyTails", inPlace := ["internal/abi.NoEscape", "internal/bytealg.abigen_runtime_cmpstring"], unfollowed := true, recurses := true, apart := false }
def GenealogyTailsSaid : Prop := genealogyTailsRow.holds Tryz.pinned (OpenSpec.ofChange genealogyTailsSpec)

/-- ITS FALSE NEIGHBOUR: 'it returns false'. Refute it at one input. -/
def genealogyTailsWrong : ChangeSpec := { name := "genealogyTails", fn := fun _ => fun
  | [d1, d2, d3, d4] => { results := [.lit (.bool false)], args := [d1, d2, d3, d4] }
  | _ => none }
def GenealogyTailsWrongFalsely : Prop := genealogyTailsRow.holds Tryz.pinned (OpenSpec.ofChange genealogyTailsWrong)

/-- 'cleanroomlaw17.GenealogyDays': WHATEVER THE INPUT: true; the input reads as it did. -/
def genealogyDaysSpec : ChangeSpec := { name := "genealogyDays", fn := fun _ => fun
  | [d1, d2, d3, d4, d5] => { results := [.lit (.bool true)], args := [d1, d2, d3, d4, d5] }
  | _ => none }
def genealogyDaysRow : OpenClaim := { program := "ythfjagphcekcbaagreat", sum := "038708d99c4e3806abd4eeb218a2f835d2db26d697339b37863c314b23cf9c27", func := "cleanroom/cleanroomlaw17.GenealogyDays", spec := "genealogyDays", inPlace := ["internal/abi.NoEscape", "internal/bytealg.abigen_runtime_cmpstring"], unfollowed := true, recurses := true, apart := false }
def GenealogyDaysSaid : Prop := genealogyDaysRow.holds Tryz.pinned (OpenSpec.ofChange genealogyDaysSpec)

/-- ITS FALSE NEIGHBOUR: 'it returns false'. Refute it at one input. -/
def genealogyDaysWrong : ChangeSpec := { name := "genealogyDays", fn := fun _ => fun
  | [d1, d2, d3, d4, d5] => { results := [.lit (.bool false)], args := [d1, d2, d3, d4, d5] }
  | _ => none }
def GenealogyDaysWrongFalsely : Prop := genealogyDaysRow.holds Tryz.pinned (OpenSpec.ofChange genealogyDaysWrong)

/-- 'cleanroomlaw17.GenealogyLots': WHATEVER THE INPUT: true; the input reads as it did. -/
def genealogyLotsSpec : ChangeSpec := { name := "genealogyLots", fn := fun _ => fun
  | [d1, d2, d3] => { results := [.lit (.bool true)], args := [d1, d2, d3] }
  | _ => none }
def genealogyLotsRow : OpenClaim := { program := "ythfjagphcekcbaagreat", sum := "038708d99c4e3806abd4eeb218a2f835d2db26d697339b37863c314b23cf9c27", func := "cleanroom/cleanroomlaw17.GenealogyLots", spec := "genealogyLots", inPlace := ["internal/abi.NoEscape", "internal/bytealg.abigen_runtime_cmpstring"], unfollowed := true, recurses := true, apart := false }
def GenealogyLotsSaid : Prop := genealogyLotsRow.holds Tryz.pinned (OpenSpec.ofChange genealogyLotsSpec)

/-- ITS FALSE NEIGHBOUR: 'it returns false'. Refute it at one input. -/
def genealogyLotsWrong : ChangeSpec := { name := "genealogyLots", fn := fun _ => fun
  | [d1, d2, d3] => { results := [.lit (.bool false)], args := [d1, d2, d3] }
  | _ => none }
def GenealogyLotsWrongFalsely : Prop := genealogyLotsRow.holds Tryz.pinned (OpenSpec.ofChange genealogyLotsWrong)

/-- 'cleanroomlaw17.GenealogyOrder': WHATEVER THE INPUT: true; the input reads as it did. -/
def genealogyOrderSpec : ChangeSpec := { name := "genealogyOrder", fn := fun _ => fun
  | [d1, d2, d3, d4] => { results := [.lit (.bool true)], args := [d1, d2, d3, d4] }
  | _ => none }
def genealogyOrderRow : OpenClaim := { program := "ythfjagphcekcbaagreat", sum := "038708d99c4e3806abd4eeb218a2f835d2db26d697339b37863c314b23cf9c27", func := "cleanroom/cleanroomlaw17.GenealogyOrder", spec := "genealogyOrder", inPlace := ["internal/abi.NoEscape", "internal/bytealg.abigen_runtime_cmpstring"], unfollowed := true, recurses := true, apart := false }
def GenealogyOrderSaid : Prop := genealogyOrderRow.holds Tryz.pinned (OpenSpec.ofChange genealogyOrderSpec)

/-- ITS FALSE NEIGHBOUR: 'it returns false'. Refute it at one input. -/
def genealogyOrderWrong : ChangeSpec := { name := "genealogyOrder", fn := fun _ => fun
  | [d1, d2, d3, d4] => { results := [.lit (.bool false)], args := [d1, d2, d3, d4] }
  | _ => none }
def GenealogyOrderWrongFalsely : Prop := genealogyOrderRow.holds Tryz.pinned (OpenSpec.ofChange genealogyOrderWrong)

/- THE SECOND FORM. 'bulk': how many values and letters a reading holds, each counted each time it is reached (what is shared counts as often as it is met; a slice's spare places count too). A statement '..UptoSaid' is the law's where the arguments, and the package variables that the reading takes, are together of bulk at most 1048576: NARROWER than '..Said'. Prove '..Said' where nothing that the law and all that it calls make is longer than what came in: it says more and counts as full. Else prove '..UptoSaid'. A law counts once. -/
mutual
def uptoBulk {H : Type} : DataW H → Nat
  | .lit (.string bytes) => bytes.length + 1
  | .lit _ => 1
  | .nil => 1
  | .ptr d => uptoBulk d + 1
  | .slice elems spare => uptoBulkAll elems + uptoBulkAll spare + 1
  | .agg parts => uptoBulkAll parts + 1
  | .iface _ d => uptoBulk d + 1
  | .map entries => uptoBulkEntries entries + 1
  | .held _ => 1
def uptoBulkAll {H : Type} : List (DataW H) → Nat
  | [] => 0
  | d :: r => uptoBulk d + uptoBulkAll r
def uptoBulkEntries {H : Type} : List (Lit × DataW H) → Nat
  | [] => 0
  | x :: r => uptoBulkEntry x + uptoBulkEntries r
def uptoBulkEntry {H : Type} : Lit × DataW H → Nat
  | (.string bytes, d) => bytes.length + uptoBulk d + 1
  | (_, d) => uptoBulk d + 1
 end
def uptoSmall : (H : Type) → List (DataW H) → Bool := fun _ ds => decide (uptoBulkAll ds ≤ 1048576)
def OpenSpec.upto (s : _root_.Go.ChangeSpec) : _root_.Go.OpenSpec := { _root_.Go.OpenSpec.ofChange s with cond := some uptoSmall }

/-- 'cleanroomlaw17.GenealogyMatchesReference', WHERE WHAT IT READS IS OF BULK AT MOST 1048576: true; the input reads as it did. -/
def genealogyMatchesReferenceUptoRow : OpenClaim := { program := "ythfjagphcekcbaagreat", sum := "038708d99c4e3806abd4eeb218a2f835d2db26d697339b37863c314b23cf9c27", func := "cleanroom/cleanroomlaw17.GenealogyMatchesReference", spec := "genealogyMatchesReference", inPlace := ["internal/abi.NoEscape", "internal/bytealg.abigen_runtime_cmpstring"], unfollowed := true, recurses := true, apart := false, narrowed := true }
def GenealogyMatchesReferenceUptoSaid : Prop := genealogyMatchesReferenceUptoRow.holds Tryz.pinned (OpenSpec.upto genealogyMatchesReferenceSpec)

/-- 'cleanroomlaw17.GenealogyInverse', WHERE WHAT IT READS IS OF BULK AT MOST 1048576: true; the input reads as it did. -/
def genealogyInverseUptoRow : OpenClaim := { program := "ythfjagphcekcbaagreat", sum := "038708d99c4e3806abd4eeb218a2f835d2db26d697339b37863c314b23cf9c27", func := "cleanroom/cleanroomlaw17.GenealogyInverse", spec := "genealogyInverse", inPlace := ["internal/abi.NoEscape", "internal/bytealg.abigen_runtime_cmpstring"], unfollowed := true, recurses := true, apart := false, narrowed := true }
def GenealogyInverseUptoSaid : Prop := genealogyInverseUptoRow.holds Tryz.pinned (OpenSpec.upto genealogyInverseSpec)

/-- 'cleanroomlaw17.GenealogyHistories', WHERE WHAT IT READS IS OF BULK AT MOST 1048576: true; the input reads as it did. -/
def genealogyHistoriesUptoRow : OpenClaim := { program := "ythfjagphcekcbaagreat", sum := "038708d99c4e3806abd4eeb218a2f835d2db26d697339b37863c314b23cf9c27", func := "cleanroom/cleanroomlaw17.GenealogyHistories", spec := "genealogyHistories", inPlace := ["internal/abi.NoEscape", "internal/bytealg.abigen_runtime_cmpstring"], unfollowed := true, recurses := true, apart := false, narrowed := true }
def GenealogyHistoriesUptoSaid : Prop := genealogyHistoriesUptoRow.holds Tryz.pinned (OpenSpec.upto genealogyHistoriesSpec)

/-- 'cleanroomlaw17.GenealogySwapped', WHERE WHAT IT READS IS OF BULK AT MOST 1048576: true; the input reads as it did. -/
def genealogySwappedUptoRow : OpenClaim := { program := "ythfjagphcekcbaagreat", sum := "038708d99c4e3806abd4eeb218a2f835d2db26d697339b37863c314b23cf9c27", func := "cleanroom/cleanroomlaw17.GenealogySwapped", spec := "genealogySwapped", inPlace := ["internal/abi.NoEscape", "internal/bytealg.abigen_runtime_cmpstring"], unfollowed := true, recurses := true, apart := false, narrowed := true }
def GenealogySwappedUptoSaid : Prop := genealogySwappedUptoRow.holds Tryz.pinned (OpenSpec.upto genealogySwappedSpec)

/-- 'cleanroomlaw17.GenealogyTails', WHERE WHAT IT READS IS OF BULK AT MOST 1048576: true; the input reads as it did. -/
def genealogyTailsUptoRow : OpenClaim := { program := "ythfjagphcekcbaagreat", sum := "038708d99c4e3806abd4eeb218a2f835d2db26d697339b37863c314b23cf9c27", func := "cleanroom/cleanroomlaw17.GenealogyTails", spec := "genealogyTails", inPlace := ["internal/abi.NoEscape", "internal/bytealg.abigen_runtime_cmpstring"], unfollowed := true, recurses := true, apart := false, narrowed := true }
def GenealogyTailsUptoSaid : Prop := genealogyTailsUptoRow.holds Tryz.pinned (OpenSpec.upto genealogyTailsSpec)

/-- 'cleanroomlaw17.GenealogyDays', WHERE WHAT IT READS IS OF BULK AT MOST 1048576: true; the input reads as it did. -/
def genealogyDaysUptoRow : OpenClaim := { program := "ythfjagphcekcbaagreat", sum := "038708d99c4e3806abd4eeb218a2f835d2db26d697339b37863c314b23cf9c27", func := "cleanroom/cleanroomlaw17.GenealogyDays", spec := "genealogyDays", inPlace := ["internal/abi.NoEscape", "internal/bytealg.abigen_runtime_cmpstring"], unfollowed := true, recurses := true, apart := false, narrowed := true }
def GenealogyDaysUptoSaid : Prop := genealogyDaysUptoRow.holds Tryz.pinned (OpenSpec.upto genealogyDaysSpec)

/-- 'cleanroomlaw17.GenealogyLots', WHERE WHAT IT READS IS OF BULK AT MOST 1048576: true; the input reads as it did. -/
def genealogyLotsUptoRow : OpenClaim := { program := "ythfjagphcekcbaagreat", sum := "038708d99c4e3806abd4eeb218a2f835d2db26d697339b37863c314b23cf9c27", func := "cleanroom/cleanroomlaw17.GenealogyLots", spec := "genealogyLots", inPlace := ["internal/abi.NoEscape", "internal/bytealg.abigen_runtime_cmpstring"], unfollowed := true, recurses := true, apart := false, narrowed := true }
def GenealogyLotsUptoSaid : Prop := genealogyLotsUptoRow.holds Tryz.pinned (OpenSpec.upto genealogyLotsSpec)

/-- 'cleanroomlaw17.GenealogyOrder', WHERE WHAT IT READS IS OF BULK AT MOST 1048576: true; the input reads as it did. -/
def genealogyOrderUptoRow : OpenClaim := { program := "ythfjagphcekcbaagreat", sum := "038708d99c4e3806abd4eeb218a2f835d2db26d697339b37863c314b23cf9c27", func := "cleanroom/cleanroomlaw17.GenealogyOrder", spec := "genealogyOrder", inPlace := ["internal/abi.NoEscape", "internal/bytealg.abigen_runtime_cmpstring"], unfollowed := true, recurses := true, apart := false, narrowed := true }
def GenealogyOrderUptoSaid : Prop := genealogyOrderUptoRow.holds Tryz.pinned (OpenSpec.upto genealogyOrderSpec)

end Rows
end Go.Proofs.YthfjagphcekcbaaGreat
