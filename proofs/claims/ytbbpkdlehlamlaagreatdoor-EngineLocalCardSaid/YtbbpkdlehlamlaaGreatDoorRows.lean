/-
  NARROWER THAN 'FOR EVERY INPUT', by the rows' own cells (each row's printed sentence says how): EngineLocal: laid · EngineLate: laid · EngineMatchesReference: laid · EngineAnew: laid · EngineOrder: laid · EngineTwice: laid · EngineOwns: laid.
  DERIVED. THE GIVEN ROWS OF THIS SEAT. 7 by the template 'for every input the law returns true; each argument reads behind the call as it read before'; 0 by the template 'total and deterministic' (their statements: YtbbpkdlehlamlaaGreatDoorTotals.lean).
  GIVEN WITH THE SEED: the statements are not yours to turn. If you find one false, say at which input.
  Laid BY PROGRAM, IN A SANDBOX (cutbox-rows.mjs): the forced cells as the released guide's own fill.sh prints them over the translation 41a7e9081d85e4c1… (all of the seat's roots in one cut). By AI agents, Wed Nov 11 2026. No macro, syntax, notation, axiom, sorry.
-/
import Derived.Test.YtbbpkdlehlamlaaGreatDoorChecked
import GoSem.Claim
import GoSem.ClaimJoined
import GoSem.ClaimMapViews
import Derived.JoinedTies
import Derived.KernelRfl
namespace Go.Proofs.YtbbpkdlehlamlaaGreatDoor
/- THE CELL 'sum', in the pinned program and in every row, IS THE sha256 OF THE DUMP (.gsa) THAT YtbbpkdlehlamlaaGreatDoorProg.lean LOADS. Nothing in Lean hashes anything: it is a label: what it is worth is what the hold of that sum in a sandbox is worth. -/
noncomputable def Tryz.pinned : Pinned := { name := "ytbbpkdlehlamlaagreatdoor", sum := "41a7e9081d85e4c164a8fbf3b2a0f19cd88af8d918efcc9916671ec1281d3959", checked := Tryz.checked }
namespace Rows
def none {H : Type} : Left H := { results := [], args := [] }

/- WHAT THE LISTED PACKAGE-LEVEL VARIABLES READ AS WHEN THE CALL BEGINS. Each datum BY PROGRAM (the guide's laid-datum.mjs) off the statement by which the dump's own 'gosem.cut.vars' lays the variable. In a bare row this is a premise. The card (YtbbpkdlehlamlaaGreatDoorCards.lean) ties it to the program's text. -/
def laid_cleanroom_ratio_errMisfit {H : Type} : DataW H := .iface "*errors.errorString" (.ptr (.agg [.lit (.string [109, 105, 115, 102, 105, 116])]))
def laid_cleanroom_control_errSize {H : Type} : DataW H := .iface "*errors.errorString" (.ptr (.agg [.lit (.string [115, 105, 122, 101])]))

/-- 'cleanroomlaw21.EngineLocal': WHATEVER THE INPUT: true; the input reads as it did. -/
def engineLocalSpec : ChangeSpec := { name := "engineLocal", fn := fun _ => fun
  | [d1, d2, d3] => { results := [.lit (.bool true)], args := [d1, d2, d3] }
  | _ => none }
def engineLocalRow : OpenClaim := { program := "ytbbpkdlehlamlaagreatdoor", sum := "41a7e9081d85e4c164a8fbf3b2a0f19cd88af8d918efcc9916671ec1281d3959", func := "cleanroom/cleanroomlaw21.EngineLocal", spec := "engineLocal", inPlace := ["maps.clone", "internal/abi.NoEscape", "internal/bytealg.abigen_runtime_cmpstring", "internal/reflectlite.TypeOf"], unfollowed := true, recurses := true, named := ["cleanroom/control.errSize", "cleanroom/ratio.errMisfit"], plainKeys := false, apart := false, laid := [("cleanroom/ratio.errMisfit", laid_cleanroom_ratio_errMisfit), ("cleanroom/control.errSize", laid_cleanroom_control_errSize)] }
def EngineLocalSaid : Prop := engineLocalRow.holds Tryz.pinned (OpenSpec.ofChange engineLocalSpec)

/-- ITS FALSE NEIGHBOUR: 'it returns false'. Refute it at one input. -/
def engineLocalWrong : ChangeSpec := { name := "engineLocal", fn := fun _ => fun
  | [d1, d2, d3] => { results := [.lit (.bool false)], args := [d1, d2, d3] }
  | _ => none }
def EngineLocalWrongFalsely : Prop := engineLocalRow.holds Tryz.pinned (OpenSpec.ofChange engineLocalWrong)

/-- 'cleanroomlaw21.EngineLate': WHATEVER THE INPUT: true; the input reads as it did. -/
def engineLateSpec : ChangeSpec := { name := "engineLate", fn := fun _ => fun
  | [d1, d2, d3, d4] => { results := [.lit (.bool true)], args := [d1, d2, d3, d4] }
  | _ => none }
def engineLateRow : OpenClaim := { program := "ytbbpkdlehlamlaagreatdoor", sum := "41a7e9081d85e4c164a8fbf3b2a0f19cd88af8d918efcc9916671ec1281d3959", func := "cleanroom/cleanroomlaw21.EngineLate", spec := "engineLate", inPlace := ["maps.clone", "internal/abi.NoEscape", "internal/bytealg.abigen_runtime_cmpstring", "internal/reflectlite.TypeOf"], unfollowed := true, recurses := true, named := ["cleanroom/control.errSize", "cleanroom/ratio.errMisfit"], plainKeys := false, apart := false, laid := [("cleanroom/ratio.errMisfit", laid_cleanroom_ratio_errMisfit), ("cleanroom/control.errSize", laid_cleanroom_control_errSize)] }
def EngineLateSaid : Prop := engineLateRow.holds Tryz.pinned (OpenSpec.ofChange engineLateSpec)

/-- ITS FALSE NEIGHBOUR: 'it returns false'. Refute it at one input. -/
def engineLateWrong : ChangeSpec := { name := "engineLate", fn := fun _ => fun
  | [d1, d2, d3, d4] => { results := [.lit (.bool false)], args := [d1, d2, d3, d4] }
  | _ => none }
def EngineLateWrongFalsely : Prop := engineLateRow.holds Tryz.pinned (OpenSpec.ofChange engineLateWrong)

/-- 'cleanroomlaw21.EngineMatchesReference': WHATEVER THE INPUT: true; the input reads as it did. -/
def engineMatchesReferenceSpec : ChangeSpec := { name := "engineMatchesReference", fn := fun _ => fun
  | [d1, d2, d3, d4, d5, d6] => { results := [.lit (.bool true)], args := [d1, d2, d3, d4, d5, d6] }
  | _ => none }
def engineMatchesReferenceRow : OpenClaim := { program := "ytbbpkdlehlamlaagreatdoor", sum := "41a7e9081d85e4c164a8fbf3b2a0f19cd88af8d918efcc9916671ec1281d3959", func := "cleanroom/cleanroomlaw21.EngineMatchesReference", spec := "engineMatchesReference", inPlace := ["maps.clone", "internal/abi.NoEscape", "internal/bytealg.abigen_runtime_cmpstring", "internal/reflectlite.TypeOf"], unfollowed := true, recurses := true, named := ["cleanroom/control.errSize", "cleanroom/ratio.errMisfit"], plainKeys := false, apart := false, laid := [("cleanroom/ratio.errMisfit", laid_cleanroom_ratio_errMisfit), ("cleanroom/control.errSize", laid_cleanroom_control_errSize)] }
def EngineMatchesReferenceSaid : Prop := engineMatchesReferenceRow.holds Tryz.pinned (OpenSpec.ofChange engineMatchesReferenceSpec)

/-- ITS FALSE NEIGHBOUR: 'it returns false'. Refute it at one input. -/
def engineMatchesReferenceWrong : ChangeSpec := { name := "engineMatchesReference", fn := fun _ => fun
  | [d1, d2, d3, d4, d5, d6] => { results := [.lit (.bool false)], args := [d1, d2, d3, d4, d5, d6] }
  | _ => none }
def EngineMatchesReferenceWrongFalsely : Prop := engineMatchesReferenceRow.holds Tryz.pinned (OpenSpec.ofChange engineMatchesReferenceWrong)

/-- 'cleanroomlaw21.EngineAnew': WHATEVER THE INPUT: true; the input reads as it did. -/
def engineAnewSpec : ChangeSpec := { name := "engineAnew", fn := fun _ => fun
  | [d1, d2] => { results := [.lit (.bool true)], args := [d1, d2] }
  | _ => none }
def engineAnewRow : OpenClaim := { program := "ytbbpkdlehlamlaagreatdoor", sum := "41a7e9081d85e4c164a8fbf3b2a0f19cd88af8d918efcc9916671ec1281d3959", func := "cleanroom/cleanroomlaw21.EngineAnew", spec := "engineAnew", inPlace := ["maps.clone", "internal/abi.NoEscape", "internal/bytealg.abigen_runtime_cmpstring", "internal/reflectlite.TypeOf"], unfollowed := true, recurses := true, named := ["cleanroom/control.errSize", "cleanroom/ratio.errMisfit"], plainKeys := false, apart := false, laid := [("cleanroom/ratio.errMisfit", laid_cleanroom_ratio_errMisfit), ("cleanroom/control.errSize", laid_cleanroom_control_errSize)] }
def EngineAnewSaid : Prop := engineAnewRow.holds Tryz.pinned (OpenSpec.ofChange engineAnewSpec)

/-- ITS FALSE NEIGHBOUR: 'it returns false'. Refute it at one input. -/
def engineAnewWrong : ChangeSpec := { name := "engineAnew", fn := fun _ => fun
  | [d1, d2] => { results := [.lit (.bool false)], args := [d1, d2] }
  | _ => none }
def EngineAnewWrongFalsely : Prop := engineAnewRow.holds Tryz.pinned (OpenSpec.ofChange engineAnewWrong)

/-- 'cleanroomlaw21.EngineOrder': WHATEVER THE INPUT: true; the input reads as it did. -/
def engineOrderSpec : ChangeSpec := { name := "engineOrder", fn := fun _ => fun
  | [d1, d2, d3, d4] => { results := [.lit (.bool true)], args := [d1, d2, d3, d4] }
  | _ => none }
def engineOrderRow : OpenClaim := { program := "ytbbpkdlehlamlaagreatdoor", sum := "41a7e9081d85e4c164a8fbf3b2a0f19cd88af8d918efcc9916671ec1281d3959", func := "cleanroom/cleanroomlaw21.EngineOrder", spec := "engineOrder", inPlace := ["maps.clone", "internal/abi.NoEscape", "internal/bytealg.abigen_runtime_cmpstring", "internal/reflectlite.TypeOf"], unfollowed := true, recurses := true, named := ["cleanroom/control.errSize", "cleanroom/ratio.errMisfit"], plainKeys := false, apart := false, laid := [("cleanroom/ratio.errMisfit", laid_cleanroom_ratio_errMisfit), ("cleanroom/control.errSize", laid_cleanroom_control_errSize)] }
def EngineOrderSaid : Prop := engineOrderRow.holds Tryz.pinned (OpenSpec.ofChange engineOrderSpec)

/-- ITS FALSE NEIGHBOUR: 'it returns false'. Refute it at one input. -/
def engineOrderWrong : ChangeSpec := { name := "engineOrder", fn := fun _ => fun
  | [d1, d2, d3, d4] => { results := [.lit (.bool false)], args := [d1, d2, d3, d4] }
  | _ => none }
def EngineOrderWrongFalsely : Prop := engineOrderRow.holds Tryz.pinned (OpenSpec.ofChange engineOrderWrong)

/-- 'cleanroomlaw21.EngineTwice': WHATEVER THE INPUT: true; the input reads as it did. -/
def engineTwiceSpec : ChangeSpec := { name := "engineTwice", fn := fun _ => fun
  | [d1, d2, d3] => { results := [.lit (.bool true)], args := [d1, d2, d3] }
  | _ => none }
def engineTwiceRow : OpenClaim := { program := "ytbbpkdlehlamlaagreatdoor", sum := "41a7e9081d85e4c164a8fbf3b2a0f19cd88af8d918efcc9916671ec1281d3959", func := "cleanroom/cleanroomlaw21.EngineTwice", spec := "engineTwice", inPlace := ["maps.clone", "internal/abi.NoEscape", "internal/bytealg.abigen_runtime_cmpstring", "internal/reflectlite.TypeOf"], unfollowed := true, recurses := true, named := ["cleanroom/control.errSize", "cleanroom/ratio.errMisfit"], plainKeys := false, apart := false, laid := [("cleanroom/ratio.errMisfit", laid_cleanroom_ratio_errMisfit), ("cleanroom/control.errSize", laid_cleanroom_control_errSize)] }
def EngineTwiceSaid : Prop := engineTwiceRow.holds Tryz.pinned (OpenSpec.ofChange engineTwiceSpec)

/-- ITS FALSE NEIGHBOUR: 'it returns false'. Refute it at one input. -/
def engineTwiceWrong : ChangeSpec := { name := "engineTwice", fn := fun _ => fun
  | [d1, d2, d3] => { results := [.lit (.bool false)], args := [d1, d2, d3] }
  | _ => none }
def EngineTwiceWrongFalsely : Prop := engineTwiceRow.holds Tryz.pinned (OpenSpec.ofChange engineTwiceWrong)

/-- 'cleanroomlaw21.EngineOwns': WHATEVER THE INPUT: true; the input reads as it did. -/
def engineOwnsSpec : ChangeSpec := { name := "engineOwns", fn := fun _ => fun
  | [d] => { results := [.lit (.bool true)], args := [d] }
  | _ => none }
def engineOwnsRow : OpenClaim := { program := "ytbbpkdlehlamlaagreatdoor", sum := "41a7e9081d85e4c164a8fbf3b2a0f19cd88af8d918efcc9916671ec1281d3959", func := "cleanroom/cleanroomlaw21.EngineOwns", spec := "engineOwns", inPlace := ["maps.clone", "internal/abi.NoEscape", "internal/bytealg.abigen_runtime_cmpstring", "internal/reflectlite.TypeOf"], unfollowed := true, recurses := true, named := ["cleanroom/control.errSize", "cleanroom/ratio.errMisfit"], plainKeys := false, apart := false, laid := [("cleanroom/ratio.errMisfit", laid_cleanroom_ratio_errMisfit), ("cleanroom/control.errSize", laid_cleanroom_control_errSize)] }
def EngineOwnsSaid : Prop := engineOwnsRow.holds Tryz.pinned (OpenSpec.ofChange engineOwnsSpec)

/-- ITS FALSE NEIGHBOUR: 'it returns false'. Refute it at one input. -/
def engineOwnsWrong : ChangeSpec := { name := "engineOwns", fn := fun _ => fun
  | [d] => { results := [.lit (.bool false)], args := [d] }
  | _ => none }
def EngineOwnsWrongFalsely : Prop := engineOwnsRow.holds Tryz.pinned (OpenSpec.ofChange engineOwnsWrong)

/- THE SECOND FORM. 'bulk': how many values and letters a reading holds, each counted each time it is reached (what is shared counts as often as it is met; a slice's spare places count too). A statement '..UptoSaid' is the law's where the arguments, and the package variables that the reading takes, are together of bulk at most 1048576: NARROWER than '..Said'. Prove '..Said' where nothing that the law and all that it calls make is longer than what came in: it says more and counts as full. Else prove '..UptoSaid'. A law counts once. -/
mutual
def uptoBulk {H : Type} : DataW H → Nat
  | .lit (.string bytes) => bytes.length + 1
  | .lit _ => 1
  | .nil => 1
  | .ptr d => uptoBulk d + 1
  | .slice elems spare => uptoBulkAll elems + uptoBulkAll spare + 1
  | .agg parts => uptoBulkAll parts + 1
  | .iface _ d => uptoBulk d + 1
  | .map entries => uptoBulkEntries entries + 1
  | .held _ => 1
def uptoBulkAll {H : Type} : List (DataW H) → Nat
  | [] => 0
  | d :: r => uptoBulk d + uptoBulkAll r
def uptoBulkEntries {H : Type} : List (Lit × DataW H) → Nat
  | [] => 0
  | x :: r => uptoBulkEntry x + uptoBulkEntries r
def uptoBulkEntry {H : Type} : Lit × DataW H → Nat
  | (.string bytes, d) => bytes.length + uptoBulk d + 1
  | (_, d) => uptoBulk d + 1
 end
def uptoSmall : (H : Type) → List (DataW H) → Bool := fun _ ds => decide (uptoBulkAll ds ≤ 1048576)
def OpenSpec.upto (s : _root_.Go.ChangeSpec) : _root_.Go.OpenSpec := { _root_.Go.OpenSpec.ofChange s with cond := some uptoSmall }

/-- 'cleanroomlaw21.EngineLocal', WHERE WHAT IT READS IS OF BULK AT MOST 1048576: true; the input reads as it did. -/
def engineLocalUptoRow : OpenClaim := { program := "ytbbpkdlehlamlaagreatdoor", sum := "41a7e9081d85e4c164a8fbf3b2a0f19cd88af8d918efcc9916671ec1281d3959", func := "cleanroom/cleanroomlaw21.EngineLocal", spec := "engineLocal", inPlace := ["maps.clone", "internal/abi.NoEscape", "internal/bytealg.abigen_runtime_cmpstring", "internal/reflectlite.TypeOf"], unfollowed := true, recurses := true, named := ["cleanroom/control.errSize", "cleanroom/ratio.errMisfit"], plainKeys := false, apart := false, laid := [("cleanroom/ratio.errMisfit", laid_cleanroom_ratio_errMisfit), ("cleanroom/control.errSize", laid_cleanroom_control_errSize)], narrowed := true }
def EngineLocalUptoSaid : Prop := engineLocalUptoRow.holds Tryz.pinned (OpenSpec.upto engineLocalSpec)

/-- 'cleanroomlaw21.EngineLate', WHERE WHAT IT READS IS OF BULK AT MOST 1048576: true; the input reads as it did. -/
def engineLateUptoRow : OpenClaim := { program := "ytbbpkdlehlamlaagreatdoor", sum := "41a7e9081d85e4c164a8fbf3b2a0f19cd88af8d918efcc9916671ec1281d3959", func := "cleanroom/cleanroomlaw21.EngineLate", spec := "engineLate", inPlace := ["maps.clone", "internal/abi.NoEscape", "internal/bytealg.abigen_runtime_cmpstring", "internal/reflectlite.TypeOf"], unfollowed := true, recurses := true, named := ["cleanroom/control.errSize", "cleanroom/ratio.errMisfit"], plainKeys := false, apart := false, laid := [("cleanroom/ratio.errMisfit", laid_cleanroom_ratio_errMisfit), ("cleanroom/control.errSize", laid_cleanroom_control_errSize)], narrowed := true }
def EngineLateUptoSaid : Prop := engineLateUptoRow.holds Tryz.pinned (OpenSpec.upto engineLateSpec)

/-- 'cleanroomlaw21.EngineMatchesReference', WHERE WHAT IT READS IS OF BULK AT MOST 1048576: true; the input reads as it did. -/
def engineMatchesReferenceUptoRow : OpenClaim := { program := "ytbbpkdlehlamlaagreatdoor", sum := "41a7e9081d85e4c164a8fbf3b2a0f19cd88af8d918efcc9916671ec1281d3959", func := "cleanroom/cleanroomlaw21.EngineMatchesReference", spec := "engineMatchesReference", inPlace := ["maps.clone", "internal/abi.NoEscape", "internal/bytealg.abigen_runtime_cmpstring", "internal/reflectlite.TypeOf"], unfollowed := true, recurses := true, named := ["cleanroom/control.errSize", "cleanroom/ratio.errMisfit"], plainKeys := false, apart := false, laid := [("cleanroom/ratio.errMisfit", laid_cleanroom_ratio_errMisfit), ("cleanroom/control.errSize", laid_cleanroom_control_errSize)], narrowed := true }
def EngineMatchesReferenceUptoSaid : Prop := engineMatchesReferenceUptoRow.holds Tryz.pinned (OpenSpec.upto engineMatchesReferenceSpec)

/-- 'cleanroomlaw21.EngineAnew', WHERE WHAT IT READS IS OF BULK AT MOST 1048576: true; the input reads as it did. -/
def engineAnewUptoRow : OpenClaim := { program := "ytbbpkdlehlamlaagreatdoor", sum := "41a7e9081d85e4c164a8fbf3b2a0f19cd88af8d918efcc9916671ec1281d3959", func := "cleanroom/cleanroomlaw21.EngineAnew", spec := "engineAnew", inPlace := ["maps.clone", "internal/abi.NoEscape", "internal/bytealg.abigen_runtime_cmpstring", "internal/reflectlite.TypeOf"], unfollowed := true, recurses := true, named := ["cleanroom/control.errSize", "cleanroom/ratio.errMisfit"], plainKeys := false, apart := false, laid := [("cleanroom/ratio.errMisfit", laid_cleanroom_ratio_errMisfit), ("cleanroom/control.errSize", laid_cleanroom_control_errSize)], narrowed := true }
def EngineAnewUptoSaid : Prop := engineAnewUptoRow.holds Tryz.pinned (OpenSpec.upto engineAnewSpec)

/-- 'cleanroomlaw21.EngineOrder', WHERE WHAT IT READS IS OF BULK AT MOST 1048576: true; the input reads as it did. -/
def engineOrderUptoRow : OpenClaim := { program := "ytbbpkdlehlamlaagreatdoor", sum := "41a7e9081d85e4c164a8fbf3b2a0f19cd88af8d918efcc9916671ec1281d3959", func := "cleanroom/cleanroomlaw21.EngineOrder", spec := "engineOrder", inPlace := ["maps.clone", "internal/abi.NoEscape", "internal/bytealg.abigen_runtime_cmpstring", "internal/reflectlite.TypeOf"], unfollowed := true, recurses := true, named := ["cleanroom/control.errSize", "cleanroom/ratio.errMisfit"], plainKeys := false, apart := false, laid := [("cleanroom/ratio.errMisfit", laid_cleanroom_ratio_errMisfit), ("cleanroom/control.errSize", laid_cleanroom_control_errSize)], narrowed := true }
def EngineOrderUptoSaid : Prop := engineOrderUptoRow.holds Tryz.pinned (OpenSpec.upto engineOrderSpec)

/-- 'cleanroomlaw21.EngineTwice', WHERE WHAT IT READS IS OF BULK AT MOST 1048576: true; the input reads as it did. -/
def engineTwiceUptoRow : OpenClaim := { program := "ytbbpkdlehlamlaagreatdoor", sum := "41a7e9081d85e4c164a8fbf3b2a0f19cd88af8d918efcc9916671ec1281d3959", func := "cleanroom/cleanroomlaw21.EngineTwice", spec := "engineTwice", inPlace := ["maps.clone", "internal/abi.NoEscape", "internal/bytealg.abigen_runtime_cmpstring", "internal/reflectlite.TypeOf"], unfollowed := true, recurses := true, named := ["cleanroom/control.errSize", "cleanroom/ratio.errMisfit"], plainKeys := false, apart := false, laid := [("cleanroom/ratio.errMisfit", laid_cleanroom_ratio_errMisfit), ("cleanroom/control.errSize", laid_cleanroom_control_errSize)], narrowed := true }
def EngineTwiceUptoSaid : Prop := engineTwiceUptoRow.holds Tryz.pinned (OpenSpec.upto engineTwiceSpec)

/-- 'cleanroomlaw21.EngineOwns', WHERE WHAT IT READS IS OF BULK AT MOST 1048576: true; the input reads as it did. -/
def engineOwnsUptoRow : OpenClaim := { program := "ytbbpkdlehlamlaagreatdoor", sum := "41a7e9081d85e4c164a8fbf3b2a0f19cd88af8d918efcc9916671ec1281d3959", func := "cleanroom/cleanroomlaw21.EngineOwns", spec := "engineOwns", inPlace := ["maps.clone", "internal/abi.NoEscape", "internal/bytealg.abigen_runtime_cmpstring", "internal/reflectlite.TypeOf"], unfollowed := true, recurses := true, named := ["cleanroom/control.errSize", "cleanroom/ratio.errMisfit"], plainKeys := false, apart := false, laid := [("cleanroom/ratio.errMisfit", laid_cleanroom_ratio_errMisfit), ("cleanroom/control.errSize", laid_cleanroom_control_errSize)], narrowed := true }
def EngineOwnsUptoSaid : Prop := engineOwnsUptoRow.holds Tryz.pinned (OpenSpec.upto engineOwnsSpec)

end Rows
end Go.Proofs.YtbbpkdlehlamlaaGreatDoor
