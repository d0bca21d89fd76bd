/-
  No cell of these rows narrows 'for every input' (looked for: loops, veiled, ifaces, maps, wideKeys, modest, calm, conditions, laid).
  DERIVED. THE GIVEN ROWS OF THIS SEAT. 6 by the template 'for every input the law returns true; each argument reads behind the call as it read before'; 0 by the template 'total and deterministic' (their statements: YtdelcaegofkknaaTotals.lean).
  GIVEN WITH THE SEED: the statements are not yours to turn. If you find one false, say at which input.
  Laid BY PROGRAM, IN A SANDBOX (cutbox-rows.mjs): the forced cells as the released guide's own fill.sh prints them over the translation c3a9724b30092991… (all of the seat's roots in one cut). By AI agents, Wed Nov 11 2026. No macro, syntax, notation, axiom, sorry.
-/
import Derived.Test.YtdelcaegofkknaaChecked
import GoSem.Claim
import GoSem.ClaimJoined
import GoSem.ClaimMapViews
import Derived.JoinedTies
import Derived.KernelRfl
namespace Go.Proofs.Ytdelcaegofkknaa
/- THE CELL 'sum', in the pinned program and in every row, IS THE sha256 OF THE DUMP (.gsa) THAT YtdelcaegofkknaaProg.lean LOADS. Nothing in Lean hashes anything: it is a label: what it is worth is what the hold of that sum in a sandbox is worth. -/
noncomputable def Try.pinned : Pinned := { name := "ytdelcaegofkknaa", sum := "c3a9724b3009299105fa91c1d1f42aaf071532042e3ac2c84dff891267450749", checked := Try.checked }
namespace Rows
def none {H : Type} : Left H := { results := [], args := [] }

/-- 'cleanroomlaw16.BaseOrder': WHATEVER THE INPUT: true; the input reads as it did. -/
def baseOrderSpec : ChangeSpec := { name := "baseOrder", fn := fun _ => fun
  | [d1, d2, d3] => { results := [.lit (.bool true)], args := [d1, d2, d3] }
  | _ => none }
def baseOrderRow : OpenClaim := { program := "ytdelcaegofkknaa", sum := "c3a9724b3009299105fa91c1d1f42aaf071532042e3ac2c84dff891267450749", func := "cleanroom/cleanroomlaw16.BaseOrder", spec := "baseOrder", inPlace := ["internal/abi.NoEscape", "internal/bytealg.abigen_runtime_cmpstring"], unfollowed := true, recurses := true, apart := false }
def BaseOrderSaid : Prop := baseOrderRow.holds Try.pinned (OpenSpec.ofChange baseOrderSpec)

/-- ITS FALSE NEIGHBOUR: 'it returns false'. Refute it at one input. -/
def baseOrderWrong : ChangeSpec := { name := "baseOrder", fn := fun _ => fun
  | [d1, d2, d3] => { results := [.lit (.bool false)], args := [d1, d2, d3] }
  | _ => none }
def BaseOrderWrongFalsely : Prop := baseOrderRow.holds Try.pinned (OpenSpec.ofChange baseOrderWrong)

/-- 'cleanroomlaw16.BaseDays': WHATEVER THE INPUT: true; the input reads as it did. -/
def baseDaysSpec : ChangeSpec := { name := "baseDays", fn := fun _ => fun
  | [d1, d2, d3] => { results := [.lit (.bool true)], args := [d1, d2, d3] }
  | _ => none }
def baseDaysRow : OpenClaim := { program := "ytdelcaegofkknaa", sum := "c3a9724b3009299105fa91c1d1f42aaf071532042e3ac2c84dff891267450749", func := "cleanroom/cleanroomlaw16.BaseDays", spec := "baseDays", inPlace := ["internal/abi.NoEscape", "internal/bytealg.abigen_runtime_cmpstring"], unfollowed := true, recurses := true, apart := false }
def BaseDaysSaid : Prop := baseDaysRow.holds Try.pinned (OpenSpec.ofChange baseDaysSpec)

/-- ITS FALSE NEIGHBOUR: 'it returns false'. Refute it at one input. -/
def baseDaysWrong : ChangeSpec := { name := "baseDays", fn := fun _ => fun
  | [d1, d2, d3] => { results := [.lit (.bool false)], args := [d1, d2, d3] }
  | _ => none }
def BaseDaysWrongFalsely : Prop := baseDaysRow.holds Try.pinned (OpenSpec.ofChange baseDaysWrong)

/-- 'cleanroomlaw16.BaseCorrected': WHATEVER THE INPUT: true; the input reads as it did. -/
def baseCorrectedSpec : ChangeSpec := { name := "baseCorrected", fn := fun _ => fun
  | [d1, d2, d3] => { results := [.lit (.bool true)], args := [d1, d2, d3] }
  | _ => none }
def baseCorrectedRow : OpenClaim := { program := "ytdelcaegofkknaa", sum := "c3a9724b3009299105fa91c1d1f42aaf071532042e3ac2c84dff891267450749", func := "cleanroom/cleanroomlaw16.BaseCorrected", spec := "baseCorrected", inPlace := ["internal/abi.NoEscape", "internal/bytealg.abigen_runtime_cmpstring"], unfollowed := true, recurses := true, apart := false }
def BaseCorrectedSaid : Prop := baseCorrectedRow.holds Try.pinned (OpenSpec.ofChange baseCorrectedSpec)

/-- ITS FALSE NEIGHBOUR: 'it returns false'. Refute it at one input. -/
def baseCorrectedWrong : ChangeSpec := { name := "baseCorrected", fn := fun _ => fun
  | [d1, d2, d3] => { results := [.lit (.bool false)], args := [d1, d2, d3] }
  | _ => none }
def BaseCorrectedWrongFalsely : Prop := baseCorrectedRow.holds Try.pinned (OpenSpec.ofChange baseCorrectedWrong)

/-- 'cleanroomlaw16.BaseEffect': WHATEVER THE INPUT: true; the input reads as it did. -/
def baseEffectSpec : ChangeSpec := { name := "baseEffect", fn := fun _ => fun
  | [d1, d2] => { results := [.lit (.bool true)], args := [d1, d2] }
  | _ => none }
def baseEffectRow : OpenClaim := { program := "ytdelcaegofkknaa", sum := "c3a9724b3009299105fa91c1d1f42aaf071532042e3ac2c84dff891267450749", func := "cleanroom/cleanroomlaw16.BaseEffect", spec := "baseEffect", inPlace := ["internal/abi.NoEscape", "internal/bytealg.abigen_runtime_cmpstring"], unfollowed := true, recurses := true, apart := false }
def BaseEffectSaid : Prop := baseEffectRow.holds Try.pinned (OpenSpec.ofChange baseEffectSpec)

/-- ITS FALSE NEIGHBOUR: 'it returns false'. Refute it at one input. -/
def baseEffectWrong : ChangeSpec := { name := "baseEffect", fn := fun _ => fun
  | [d1, d2] => { results := [.lit (.bool false)], args := [d1, d2] }
  | _ => none }
def BaseEffectWrongFalsely : Prop := baseEffectRow.holds Try.pinned (OpenSpec.ofChange baseEffectWrong)

/-- 'cleanroomlaw16.BaseKinds': WHATEVER THE INPUT: true; the input reads as it did. -/
def baseKindsSpec : ChangeSpec := { name := "baseKinds", fn := fun _ => fun
  | [d1, d2, d3] => { results := [.lit (.bool true)], args := [d1, d2, d3] }
  | _ => none }
def baseKindsRow : OpenClaim := { program := "ytdelcaegofkknaa", sum := "c3a9724b3009299105fa91c1d1f42aaf071532042e3ac2c84dff891267450749", func := "cleanroom/cleanroomlaw16.BaseKinds", spec := "baseKinds", inPlace := ["internal/abi.NoEscape", "internal/bytealg.abigen_runtime_cmpstring"], unfollowed := true, recurses := true, apart := false }
def BaseKindsSaid : Prop := baseKindsRow.holds Try.pinned (OpenSpec.ofChange baseKindsSpec)

/-- ITS FALSE NEIGHBOUR: 'it returns false'. Refute it at one input. -/
def baseKindsWrong : ChangeSpec := { name := "baseKinds", fn := fun _ => fun
  | [d1, d2, d3] => { results := [.lit (.bool false)], args := [d1, d2, d3] }
  | _ => none }
def BaseKindsWrongFalsely : Prop := baseKindsRow.holds Try.pinned (OpenSpec.ofChange baseKindsWrong)

/-- 'cleanroomlaw16.BaseRuns': WHATEVER THE INPUT: true; the input reads as it did. -/
def baseRunsSpec : ChangeSpec := { name := "baseRuns", fn := fun _ => fun
  | [d1, d2, d3] => { results := [.lit (.bool true)], args := [d1, d2, d3] }
  | _ => none }
def baseRunsRow : OpenClaim := { program := "ytdelcaegofkknaa", sum := "c3a9724b3009299105fa91c1d1f42aaf071532042e3ac2c84dff891267450749", func := "cleanroom/cleanroomlaw16.BaseRuns", spec := "baseRuns", inPlace := ["internal/abi.NoEscape", "internal/bytealg.abigen_runtime_cmpstring"], unfollowed := true, recurses := true, apart := false }
def BaseRunsSaid : Prop := baseRunsRow.holds Try.pinned (OpenSpec.ofChange baseRunsSpec)

/-- ITS FALSE NEIGHBOUR: 'it returns false'. Refute it at one input. -/
def baseRunsWrong : ChangeSpec := { name := "baseRuns", fn := fun _ => fun
  | [d1, d2, d3] => { results := [.lit (.bool false)], args := [d1, d2, d3] }
  | _ => none }
def BaseRunsWrongFalsely : Prop := baseRunsRow.holds Try.pinned (OpenSpec.ofChange baseRunsWrong)

/- THE SECOND FORM. 'bulk': how many values and letters a reading holds, each counted each time it is reached (what is shared counts as often as it is met; a slice's spare places count too). A statement '..UptoSaid' is the law's where the arguments, and the package variables that the reading takes, are together of bulk at most 1048576: NARROWER than '..Said'. Prove '..Said' where nothing that the law and all that it calls make is longer than what came in: it says more and counts as full. Else prove '..UptoSaid'. A law counts once. -/
mutual
def uptoBulk {H : Type} : DataW H → Nat
  | .lit (.string bytes) => bytes.length + 1
  | .lit _ => 1
  | .nil => 1
  | .ptr d => uptoBulk d + 1
  | .slice elems spare => uptoBulkAll elems + uptoBulkAll spare + 1
  | .agg parts => uptoBulkAll parts + 1
  | .iface _ d => uptoBulk d + 1
  | .map entries => uptoBulkEntries entries + 1
  | .held _ => 1
def uptoBulkAll {H : Type} : List (DataW H) → Nat
  | [] => 0
  | d :: r => uptoBulk d + uptoBulkAll r
def uptoBulkEntries {H : Type} : List (Lit × DataW H) → Nat
  | [] => 0
  | x :: r => uptoBulkEntry x + uptoBulkEntries r
def uptoBulkEntry {H : Type} : Lit × DataW H → Nat
  | (.string bytes, d) => bytes.length + uptoBulk d + 1
  | (_, d) => uptoBulk d + 1
 end
def uptoSmall : (H : Type) → List (DataW H) → Bool := fun _ ds => decide (uptoBulkAll ds ≤ 1048576)
def OpenSpec.upto (s : _root_.Go.ChangeSpec) : _root_.Go.OpenSpec := { _root_.Go.OpenSpec.ofChange s with cond := some uptoSmall }

/-- 'cleanroomlaw16.BaseOrder', WHERE WHAT IT READS IS OF BULK AT MOST 1048576: true; the input reads as it did. -/
def baseOrderUptoRow : OpenClaim := { program := "ytdelcaegofkknaa", sum := "c3a9724b3009299105fa91c1d1f42aaf071532042e3ac2c84dff891267450749", func := "cleanroom/cleanroomlaw16.BaseOrder", spec := "baseOrder", inPlace := ["internal/abi.NoEscape", "internal/bytealg.abigen_runtime_cmpstring"], unfollowed := true, recurses := true, apart := false, narrowed := true }
def BaseOrderUptoSaid : Prop := baseOrderUptoRow.holds Try.pinned (OpenSpec.upto baseOrderSpec)

/-- 'cleanroomlaw16.BaseDays', WHERE WHAT IT READS IS OF BULK AT MOST 1048576: true; the input reads as it did. -/
def baseDaysUptoRow : OpenClaim := { program := "ytdelcaegofkknaa", sum := "c3a9724b3009299105fa91c1d1f42aaf071532042e3ac2c84dff891267450749", func := "cleanroom/cleanroomlaw16.BaseDays", spec := "baseDays", inPlace := ["internal/abi.NoEscape", "internal/bytealg.abigen_runtime_cmpstring"], unfollowed := true, recurses := true, apart := false, narrowed := true }
def BaseDaysUptoSaid : Prop := baseDaysUptoRow.holds Try.pinned (OpenSpec.upto baseDaysSpec)

/-- 'cleanroomlaw16.BaseCorrected', WHERE WHAT IT READS IS OF BULK AT MOST 1048576: true; the input reads as it did. -/
def baseCorrectedUptoRow : OpenClaim := { program := "ytdelcaegofkknaa", sum := "c3a9724b3009299105fa91c1d1f42aaf071532042e3ac2c84dff891267450749", func := "cleanroom/cleanroomlaw16.BaseCorrected", spec := "baseCorrected", inPlace := ["internal/abi.NoEscape", "internal/bytealg.abigen_runtime_cmpstring"], unfollowed := true, recurses := true, apart := false, narrowed := true }
def BaseCorrectedUptoSaid : Prop := baseCorrectedUptoRow.holds Try.pinned (OpenSpec.upto baseCorrectedSpec)

/-- 'cleanroomlaw16.BaseEffect', WHERE WHAT IT READS IS OF BULK AT MOST 1048576: true; the input reads as it did. -/
def baseEffectUptoRow : OpenClaim := { program := "ytdelcaegofkknaa", sum := "c3a9724b3009299105fa91c1d1f42aaf071532042e3ac2c84dff891267450749", func := "cleanroom/cleanroomlaw16.BaseEffect", spec := "baseEffect", inPlace := ["internal/abi.NoEscape", "internal/bytealg.abigen_runtime_cmpstring"], unfollowed := true, recurses := true, apart := false, narrowed := true }
def BaseEffectUptoSaid : Prop := baseEffectUptoRow.holds Try.pinned (OpenSpec.upto baseEffectSpec)

/-- 'cleanroomlaw16.BaseKinds', WHERE WHAT IT READS IS OF BULK AT MOST 1048576: true; the input reads as it did. -/
def baseKindsUptoRow : OpenClaim := { program := "ytdelcaegofkknaa", sum := "c3a9724b3009299105fa91c1d1f42aaf071532042e3ac2c84dff891267450749", func := "cleanroom/cleanroomlaw16.BaseKinds", spec := "baseKinds", inPlace := ["internal/abi.NoEscape", "internal/bytealg.abigen_runtime_cmpstring"], unfollowed := true, recurses := true, apart := false, narrowed := true }
def BaseKindsUptoSaid : Prop := baseKindsUptoRow.holds Try.pinned (OpenSpec.upto baseKindsSpec)

/-- 'cleanroomlaw16.BaseRuns', WHERE WHAT IT READS IS OF BULK AT MOST 1048576: true; the input reads as it did. -/
def baseRunsUptoRow : OpenClaim := { program := "ytdelcaegofkknaa", sum := "c3a9724b3009299105fa91c1d1f42aaf071532042e3ac2c84dff891267450749", func := "cleanroom/cleanroomlaw16.BaseRuns", spec := "baseRuns", inPlace := ["internal/abi.NoEscape", "internal/bytealg.abigen_runtime_cmpstring"], unfollowed := true, recurses := true, apart := false, narrowed := true }
def BaseRunsUptoSaid : Prop := baseRunsUptoRow.holds Try.pinned (OpenSpec.upto baseRunsSpec)

end Rows
end Go.Proofs.Ytdelcaegofkknaa
