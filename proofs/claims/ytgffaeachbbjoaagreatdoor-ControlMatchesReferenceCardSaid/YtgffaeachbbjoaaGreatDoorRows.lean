/-
  NARROWER THAN 'FOR EVERY INPUT', by the rows' own cells (each row's printed sentence says how): ControlMatchesReference: laid · ControlLate: laid · ControlOthers: laid · ControlReset: laid · ControlBounds: laid · ControlNext: laid · ControlDays: laid.
  DERIVED. THE GIVEN ROWS OF THIS SEAT. 7 by the template 'for every input the law returns true; each argument reads behind the call as it read before'; 0 by the template 'total and deterministic' (their statements: YtgffaeachbbjoaaGreatDoorTotals.lean).
  GIVEN WITH THE SEED: the statements are not yours to turn. If you find one false, say at which input.
  Laid BY PROGRAM, IN A SANDBOX (cutbox-rows.mjs): the forced cells as the released guide's own fill.sh prints them over the translation 6e03a6c6d76caf96… (all of the seat's roots in one cut). By AI agents, Wed Nov 11 2026. No macro, syntax, notation, axiom, sorry.
-/
import Derived.Test.YtgffaeachbbjoaaGreatDoorChecked
import GoSem.Claim
import GoSem.ClaimJoined
import GoSem.ClaimMapViews
import Derived.JoinedTies
import Derived.KernelRfl
namespace Go.Proofs.YtgffaeachbbjoaaGreatDoor
/- THE CELL 'sum', in the pinned program and in every row, IS THE sha256 OF THE DUMP (.gsa) THAT YtgffaeachbbjoaaGreatDoorProg.lean LOADS. Nothing in Lean hashes anything: it is a label: what it is worth is what the hold of that sum in a sandbox is worth. -/
noncomputable def Tryz.pinned : Pinned := { name := "ytgffaeachbbjoaagreatdoor", sum := "6e03a6c6d76caf962817deed724a70f6bf3243876001f265e3844945da709326", checked := Tryz.checked }
namespace Rows
def none {H : Type} : Left H := { results := [], args := [] }

/- WHAT THE LISTED PACKAGE-LEVEL VARIABLES READ AS WHEN THE CALL BEGINS. Each datum BY PROGRAM (the guide's laid-datum.mjs) off the statement by which the dump's own 'gosem.cut.vars' lays the variable. In a bare row this is a premise. The card (YtgffaeachbbjoaaGreatDoorCards.lean) ties it to the program's text. -/
def laid_cleanroom_ratio_errMisfit {H : Type} : DataW H := .iface "*errors.errorString" (.ptr (.agg [.lit (.string [109, 105, 115, 102, 105, 116])]))
def laid_cleanroom_control_errSize {H : Type} : DataW H := .iface "*errors.errorString" (.ptr (.agg [.lit (.string [115, 105, 122, 101])]))

/-- 'cleanroomlaw20.ControlMatchesReference': WHATEVER THE INPUT: true; the input reads as it did. -/
def controlMatchesReferenceSpec : ChangeSpec := { name := "controlMatchesReference", fn := fun _ => fun
  | [d1, d2, d3, d4, d5, d6, d7, d8] => { results := [.lit (.bool true)], args := [d1, d2, d3, d4, d5, d6, d7, d8] }
  | _ => none }
def controlMatchesReferenceRow : OpenClaim := { program := "ytgffaeachbbjoaagreatdoor", sum := "6e03a6c6d76caf962817deed724a70f6bf3243876001f265e3844945da709326", func := "cleanroom/cleanroomlaw20.ControlMatchesReference", spec := "controlMatchesReference", inPlace := ["internal/reflectlite.TypeOf", "internal/abi.NoEscape", "internal/bytealg.abigen_runtime_cmpstring"], unfollowed := true, recurses := true, named := ["cleanroom/control.errSize", "cleanroom/ratio.errMisfit"], apart := false, laid := [("cleanroom/ratio.errMisfit", laid_cleanroom_ratio_errMisfit), ("cleanroom/control.errSize", laid_cleanroom_control_errSize)] }
def ControlMatchesReferenceSaid : Prop := controlMatchesReferenceRow.holds Tryz.pinned (OpenSpec.ofChange controlMatchesReferenceSpec)

/-- ITS FALSE NEIGHBOUR: 'it returns false'. Refute it at one input. -/
def controlMatchesReferenceWrong : ChangeSpec := { name := "controlMatchesReference", fn := fun _ => fun
  | [d1, d2, d3, d4, d5, d6, d7, d8] => { results := [.lit (.bool false)], args := [d1, d2, d3, d4, d5, d6, d7, d8] }
  | _ => none }
def ControlMatchesReferenceWrongFalsely : Prop := controlMatchesReferenceRow.holds Tryz.pinned (OpenSpec.ofChange controlMatchesReferenceWrong)

/-- 'cleanroomlaw20.ControlLate': WHATEVER THE INPUT: true; the input reads as it did. -/
def controlLateSpec : ChangeSpec := { name := "controlLate", fn := fun _ => fun
  | [d1, d2, d3, d4, d5, d6, d7] => { results := [.lit (.bool true)], args := [d1, d2, d3, d4, d5, d6, d7] }
  | _ => none }
def controlLateRow : OpenClaim := { program := "ytgffaeachbbjoaagreatdoor", sum := "6e03a6c6d76caf962817deed724a70f6bf3243876001f265e3844945da709326", func := "cleanroom/cleanroomlaw20.ControlLate", spec := "controlLate", inPlace := ["internal/reflectlite.TypeOf", "internal/abi.NoEscape", "internal/bytealg.abigen_runtime_cmpstring"], unfollowed := true, recurses := true, named := ["cleanroom/control.errSize", "cleanroom/ratio.errMisfit"], apart := false, laid := [("cleanroom/ratio.errMisfit", laid_cleanroom_ratio_errMisfit), ("cleanroom/control.errSize", laid_cleanroom_control_errSize)] }
def ControlLateSaid : Prop := controlLateRow.holds Tryz.pinned (OpenSpec.ofChange controlLateSpec)

/-- ITS FALSE NEIGHBOUR: 'it returns false'. Refute it at one input. -/
def controlLateWrong : ChangeSpec := { name := "controlLate", fn := fun _ => fun
  | [d1, d2, d3, d4, d5, d6, d7] => { results := [.lit (.bool false)], args := [d1, d2, d3, d4, d5, d6, d7] }
  | _ => none }
def ControlLateWrongFalsely : Prop := controlLateRow.holds Tryz.pinned (OpenSpec.ofChange controlLateWrong)

/-- 'cleanroomlaw20.ControlOthers': WHATEVER THE INPUT: true; the input reads as it did. -/
def controlOthersSpec : ChangeSpec := { name := "controlOthers", fn := fun _ => fun
  | [d1, d2, d3, d4] => { results := [.lit (.bool true)], args := [d1, d2, d3, d4] }
  | _ => none }
def controlOthersRow : OpenClaim := { program := "ytgffaeachbbjoaagreatdoor", sum := "6e03a6c6d76caf962817deed724a70f6bf3243876001f265e3844945da709326", func := "cleanroom/cleanroomlaw20.ControlOthers", spec := "controlOthers", inPlace := ["internal/reflectlite.TypeOf", "internal/abi.NoEscape", "internal/bytealg.abigen_runtime_cmpstring"], unfollowed := true, recurses := true, named := ["cleanroom/control.errSize", "cleanroom/ratio.errMisfit"], apart := false, laid := [("cleanroom/ratio.errMisfit", laid_cleanroom_ratio_errMisfit), ("cleanroom/control.errSize", laid_cleanroom_control_errSize)] }
def ControlOthersSaid : Prop := controlOthersRow.holds Tryz.pinned (OpenSpec.ofChange controlOthersSpec)

/-- ITS FALSE NEIGHBOUR: 'it returns false'. Refute it at one input. -/
def controlOthersWrong : ChangeSpec := { name := "controlOthers", fn := fun _ => fun
  | [d1, d2, d3, d4] => { results := [.lit (.bool false)], args := [d1, d2, d3, d4] }
  | _ => none }
def ControlOthersWrongFalsely : Prop := controlOthersRow.holds Tryz.pinned (OpenSpec.ofChange controlOthersWrong)

/-- 'cleanroomlaw20.ControlReset': WHATEVER THE INPUT: true; the input reads as it did. -/
def controlResetSpec : ChangeSpec := { name := "controlReset", fn := fun _ => fun
  | [d1, d2, d3, d4, d5] => { results := [.lit (.bool true)], args := [d1, d2, d3, d4, d5] }
  | _ => none }
def controlResetRow : OpenClaim := { program := "ytgffaeachbbjoaagreatdoor", sum := "6e03a6c6d76caf962817deed724a70f6bf3243876001f265e3844945da709326", func := "cleanroom/cleanroomlaw20.ControlReset", spec := "controlReset", inPlace := ["internal/reflectlite.TypeOf", "internal/abi.NoEscape", "internal/bytealg.abigen_runtime_cmpstring"], unfollowed := true, recurses := true, named := ["cleanroom/control.errSize", "cleanroom/ratio.errMisfit"], apart := false, laid := [("cleanroom/ratio.errMisfit", laid_cleanroom_ratio_errMisfit), ("cleanroom/control.errSize", laid_cleanroom_control_errSize)] }
def ControlResetSaid : Prop := controlResetRow.holds Tryz.pinned (OpenSpec.ofChange controlResetSpec)

/-- ITS FALSE NEIGHBOUR: 'it returns false'. Refute it at one input. -/
def controlResetWrong : ChangeSpec := { name := "controlReset", fn := fun _ => fun
  | [d1, d2, d3, d4, d5] => { results := [.lit (.bool false)], args := [d1, d2, d3, d4, d5] }
  | _ => none }
def ControlResetWrongFalsely : Prop := controlResetRow.holds Tryz.pinned (OpenSpec.ofChange controlResetWrong)

/-- 'cleanroomlaw20.ControlBounds': WHATEVER THE INPUT: true; the input reads as it did. -/
def controlBoundsSpec : ChangeSpec := { name := "controlBounds", fn := fun _ => fun
  | [d1, d2, d3, d4, d5] => { results := [.lit (.bool true)], args := [d1, d2, d3, d4, d5] }
  | _ => none }
def controlBoundsRow : OpenClaim := { program := "ytgffaeachbbjoaagreatdoor", sum := "6e03a6c6d76caf962817deed724a70f6bf3243876001f265e3844945da709326", func := "cleanroom/cleanroomlaw20.ControlBounds", spec := "controlBounds", inPlace := ["internal/reflectlite.TypeOf", "internal/abi.NoEscape", "internal/bytealg.abigen_runtime_cmpstring"], unfollowed := true, recurses := true, named := ["cleanroom/control.errSize", "cleanroom/ratio.errMisfit"], apart := false, laid := [("cleanroom/ratio.errMisfit", laid_cleanroom_ratio_errMisfit), ("cleanroom/control.errSize", laid_cleanroom_control_errSize)] }
def ControlBoundsSaid : Prop := controlBoundsRow.holds Tryz.pinned (OpenSpec.ofChange controlBoundsSpec)

/-- ITS FALSE NEIGHBOUR: 'it returns false'. Refute it at one input. -/
def controlBoundsWrong : ChangeSpec := { name := "controlBounds", fn := fun _ => fun
  | [d1, d2, d3, d4, d5] => { results := [.lit (.bool false)], args := [d1, d2, d3, d4, d5] }
  | _ => none }
def ControlBoundsWrongFalsely : Prop := controlBoundsRow.holds Tryz.pinned (OpenSpec.ofChange controlBoundsWrong)

/-- 'cleanroomlaw20.ControlNext': WHATEVER THE INPUT: true; the input reads as it did. -/
def controlNextSpec : ChangeSpec := { name := "controlNext", fn := fun _ => fun
  | [d1, d2, d3, d4, d5] => { results := [.lit (.bool true)], args := [d1, d2, d3, d4, d5] }
  | _ => none }
def controlNextRow : OpenClaim := { program := "ytgffaeachbbjoaagreatdoor", sum := "6e03a6c6d76caf962817deed724a70f6bf3243876001f265e3844945da709326", func := "cleanroom/cleanroomlaw20.ControlNext", spec := "controlNext", inPlace := ["internal/reflectlite.TypeOf", "internal/abi.NoEscape", "internal/bytealg.abigen_runtime_cmpstring"], unfollowed := true, recurses := true, named := ["cleanroom/control.errSize", "cleanroom/ratio.errMisfit"], apart := false, laid := [("cleanroom/ratio.errMisfit", laid_cleanroom_ratio_errMisfit), ("cleanroom/control.errSize", laid_cleanroom_control_errSize)] }
def ControlNextSaid : Prop := controlNextRow.holds Tryz.pinned (OpenSpec.ofChange controlNextSpec)

/-- ITS FALSE NEIGHBOUR: 'it returns false'. Refute it at one input. -/
def controlNextWrong : ChangeSpec := { name := "controlNext", fn := fun _ => fun
  | [d1, d2, d3, d4, d5] => { results := [.lit (.bool false)], args := [d1, d2, d3, d4, d5] }
  | _ => none }
def ControlNextWrongFalsely : Prop := controlNextRow.holds Tryz.pinned (OpenSpec.ofChange controlNextWrong)

/-- 'cleanroomlaw20.ControlDays': WHATEVER THE INPUT: true; the input reads as it did. -/
def controlDaysSpec : ChangeSpec := { name := "controlDays", fn := fun _ => fun
  | [d1, d2, d3, d4, d5, d6] => { results := [.lit (.bool true)], args := [d1, d2, d3, d4, d5, d6] }
  | _ => none }
def controlDaysRow : OpenClaim := { program := "ytgffaeachbbjoaagreatdoor", sum := "6e03a6c6d76caf962817deed724a70f6bf3243876001f265e3844945da709326", func := "cleanroom/cleanroomlaw20.ControlDays", spec := "controlDays", inPlace := ["internal/reflectlite.TypeOf", "internal/abi.NoEscape", "internal/bytealg.abigen_runtime_cmpstring"], unfollowed := true, recurses := true, named := ["cleanroom/control.errSize", "cleanroom/ratio.errMisfit"], apart := false, laid := [("cleanroom/ratio.errMisfit", laid_cleanroom_ratio_errMisfit), ("cleanroom/control.errSize", laid_cleanroom_control_errSize)] }
def ControlDaysSaid : Prop := controlDaysRow.holds Tryz.pinned (OpenSpec.ofChange controlDaysSpec)

/-- ITS FALSE NEIGHBOUR: 'it returns false'. Refute it at one input. -/
def controlDaysWrong : ChangeSpec := { name := "controlDays", fn := fun _ => fun
  | [d1, d2, d3, d4, d5, d6] => { results := [.lit (.bool false)], args := [d1, d2, d3, d4, d5, d6] }
  | _ => none }
def ControlDaysWrongFalsely : Prop := controlDaysRow.holds Tryz.pinned (OpenSpec.ofChange controlDaysWrong)

/- THE SECOND FORM. 'bulk': how many values and letters a reading holds, each counted each time it is reached (what is shared counts as often as it is met; a slice's spare places count too). A statement '..UptoSaid' is the law's where the arguments, and the package variables that the reading takes, are together of bulk at most 1048576: NARROWER than '..Said'. Prove '..Said' where nothing that the law and all that it calls make is longer than what came in: it says more and counts as full. Else prove '..UptoSaid'. A law counts once. -/
mutual
def uptoBulk {H : Type} : DataW H → Nat
  | .lit (.string bytes) => bytes.length + 1
  | .lit _ => 1
  | .nil => 1
  | .ptr d => uptoBulk d + 1
  | .slice elems spare => uptoBulkAll elems + uptoBulkAll spare + 1
  | .agg parts => uptoBulkAll parts + 1
  | .iface _ d => uptoBulk d + 1
  | .map entries => uptoBulkEntries entries + 1
  | .held _ => 1
def uptoBulkAll {H : Type} : List (DataW H) → Nat
  | [] => 0
  | d :: r => uptoBulk d + uptoBulkAll r
def uptoBulkEntries {H : Type} : List (Lit × DataW H) → Nat
  | [] => 0
  | x :: r => uptoBulkEntry x + uptoBulkEntries r
def uptoBulkEntry {H : Type} : Lit × DataW H → Nat
  | (.string bytes, d) => bytes.length + uptoBulk d + 1
  | (_, d) => uptoBulk d + 1
 end
def uptoSmall : (H : Type) → List (DataW H) → Bool := fun _ ds => decide (uptoBulkAll ds ≤ 1048576)
def OpenSpec.upto (s : _root_.Go.ChangeSpec) : _root_.Go.OpenSpec := { _root_.Go.OpenSpec.ofChange s with cond := some uptoSmall }

/-- 'cleanroomlaw20.ControlMatchesReference', WHERE WHAT IT READS IS OF BULK AT MOST 1048576: true; the input reads as it did. -/
def controlMatchesReferenceUptoRow : OpenClaim := { program := "ytgffaeachbbjoaagreatdoor", sum := "6e03a6c6d76caf962817deed724a70f6bf3243876001f265e3844945da709326", func := "cleanroom/cleanroomlaw20.ControlMatchesReference", spec := "controlMatchesReference", inPlace := ["internal/reflectlite.TypeOf", "internal/abi.NoEscape", "internal/bytealg.abigen_runtime_cmpstring"], unfollowed := true, recurses := true, named := ["cleanroom/control.errSize", "cleanroom/ratio.errMisfit"], apart := false, laid := [("cleanroom/ratio.errMisfit", laid_cleanroom_ratio_errMisfit), ("cleanroom/control.errSize", laid_cleanroom_control_errSize)], narrowed := true }
def ControlMatchesReferenceUptoSaid : Prop := controlMatchesReferenceUptoRow.holds Tryz.pinned (OpenSpec.upto controlMatchesReferenceSpec)

/-- 'cleanroomlaw20.ControlLate', WHERE WHAT IT READS IS OF BULK AT MOST 1048576: true; the input reads as it did. -/
def controlLateUptoRow : OpenClaim := { program := "ytgffaeachbbjoaagreatdoor", sum := "6e03a6c6d76caf962817deed724a70f6bf3243876001f265e3844945da709326", func := "cleanroom/cleanroomlaw20.ControlLate", spec := "controlLate", inPlace := ["internal/reflectlite.TypeOf", "internal/abi.NoEscape", "internal/bytealg.abigen_runtime_cmpstring"], unfollowed := true, recurses := true, named := ["cleanroom/control.errSize", "cleanroom/ratio.errMisfit"], apart := false, laid := [("cleanroom/ratio.errMisfit", laid_cleanroom_ratio_errMisfit), ("cleanroom/control.errSize", laid_cleanroom_control_errSize)], narrowed := true }
def ControlLateUptoSaid : Prop := controlLateUptoRow.holds Tryz.pinned (OpenSpec.upto controlLateSpec)

/-- 'cleanroomlaw20.ControlOthers', WHERE WHAT IT READS IS OF BULK AT MOST 1048576: true; the input reads as it did. -/
def controlOthersUptoRow : OpenClaim := { program := "ytgffaeachbbjoaagreatdoor", sum := "6e03a6c6d76caf962817deed724a70f6bf3243876001f265e3844945da709326", func := "cleanroom/cleanroomlaw20.ControlOthers", spec := "controlOthers", inPlace := ["internal/reflectlite.TypeOf", "internal/abi.NoEscape", "internal/bytealg.abigen_runtime_cmpstring"], unfollowed := true, recurses := true, named := ["cleanroom/control.errSize", "cleanroom/ratio.errMisfit"], apart := false, laid := [("cleanroom/ratio.errMisfit", laid_cleanroom_ratio_errMisfit), ("cleanroom/control.errSize", laid_cleanroom_control_errSize)], narrowed := true }
def ControlOthersUptoSaid : Prop := controlOthersUptoRow.holds Tryz.pinned (OpenSpec.upto controlOthersSpec)

/-- 'cleanroomlaw20.ControlReset', WHERE WHAT IT READS IS OF BULK AT MOST 1048576: true; the input reads as it did. -/
def controlResetUptoRow : OpenClaim := { program := "ytgffaeachbbjoaagreatdoor", sum := "6e03a6c6d76caf962817deed724a70f6bf3243876001f265e3844945da709326", func := "cleanroom/cleanroomlaw20.ControlReset", spec := "controlReset", inPlace := ["internal/reflectlite.TypeOf", "internal/abi.NoEscape", "internal/bytealg.abigen_runtime_cmpstring"], unfollowed := true, recurses := true, named := ["cleanroom/control.errSize", "cleanroom/ratio.errMisfit"], apart := false, laid := [("cleanroom/ratio.errMisfit", laid_cleanroom_ratio_errMisfit), ("cleanroom/control.errSize", laid_cleanroom_control_errSize)], narrowed := true }
def ControlResetUptoSaid : Prop := controlResetUptoRow.holds Tryz.pinned (OpenSpec.upto controlResetSpec)

/-- 'cleanroomlaw20.ControlBounds', WHERE WHAT IT READS IS OF BULK AT MOST 1048576: true; the input reads as it did. -/
def controlBoundsUptoRow : OpenClaim := { program := "ytgffaeachbbjoaagreatdoor", sum := "6e03a6c6d76caf962817deed724a70f6bf3243876001f265e3844945da709326", func := "cleanroom/cleanroomlaw20.ControlBounds", spec := "controlBounds", inPlace := ["internal/reflectlite.TypeOf", "internal/abi.NoEscape", "internal/bytealg.abigen_runtime_cmpstring"], unfollowed := true, recurses := true, named := ["cleanroom/control.errSize", "cleanroom/ratio.errMisfit"], apart := false, laid := [("cleanroom/ratio.errMisfit", laid_cleanroom_ratio_errMisfit), ("cleanroom/control.errSize", laid_cleanroom_control_errSize)], narrowed := true }
def ControlBoundsUptoSaid : Prop := controlBoundsUptoRow.holds Tryz.pinned (OpenSpec.upto controlBoundsSpec)

/-- 'cleanroomlaw20.ControlNext', WHERE WHAT IT READS IS OF BULK AT MOST 1048576: true; the input reads as it did. -/
def controlNextUptoRow : OpenClaim := { program := "ytgffaeachbbjoaagreatdoor", sum := "6e03a6c6d76caf962817deed724a70f6bf3243876001f265e3844945da709326", func := "cleanroom/cleanroomlaw20.ControlNext", spec := "controlNext", inPlace := ["internal/reflectlite.TypeOf", "internal/abi.NoEscape", "internal/bytealg.abigen_runtime_cmpstring"], unfollowed := true, recurses := true, named := ["cleanroom/control.errSize", "cleanroom/ratio.errMisfit"], apart := false, laid := [("cleanroom/ratio.errMisfit", laid_cleanroom_ratio_errMisfit), ("cleanroom/control.errSize", laid_cleanroom_control_errSize)], narrowed := true }
def ControlNextUptoSaid : Prop := controlNextUptoRow.holds Tryz.pinned (OpenSpec.upto controlNextSpec)

/-- 'cleanroomlaw20.ControlDays', WHERE WHAT IT READS IS OF BULK AT MOST 1048576: true; the input reads as it did. -/
def controlDaysUptoRow : OpenClaim := { program := "ytgffaeachbbjoaagreatdoor", sum := "6e03a6c6d76caf962817deed724a70f6bf3243876001f265e3844945da709326", func := "cleanroom/cleanroomlaw20.ControlDays", spec := "controlDays", inPlace := ["internal/reflectlite.TypeOf", "internal/abi.NoEscape", "internal/bytealg.abigen_runtime_cmpstring"], unfollowed := true, recurses := true, named := ["cleanroom/control.errSize", "cleanroom/ratio.errMisfit"], apart := false, laid := [("cleanroom/ratio.errMisfit", laid_cleanroom_ratio_errMisfit), ("cleanroom/control.errSize", laid_cleanroom_control_errSize)], narrowed := true }
def ControlDaysUptoSaid : Prop := controlDaysUptoRow.holds Tryz.pinned (OpenSpec.upto controlDaysSpec)

end Rows
end Go.Proofs.YtgffaeachbbjoaaGreatDoor
