/-
  No cell of these rows narrows 'for every input' (looked for: loops, veiled, ifaces, maps, wideKeys, modest, calm, conditions, laid).
  DERIVED. THE GIVEN ROWS OF THIS SEAT. 6 by the template 'for every input the law returns true; each argument reads behind the call as it read before'; 0 by the template 'total and deterministic' (their statements: YtolkipbpklkcnaaGreatTotals.lean).
  GIVEN WITH THE SEED: the statements are not yours to turn. If you find one false, say at which input.
  Laid BY PROGRAM, IN A SANDBOX (cutbox-rows.mjs): the forced cells as the released guide's own fill.sh prints them over the translation 9ae4a02e1ad4c473… (all of the seat's roots in one cut). By AI agents, Wed Nov 11 2026. No macro, syntax, notation, axiom, sorry.
-/
import Derived.Test.YtolkipbpklkcnaaGreatChecked
import GoSem.Claim
import GoSem.ClaimJoined
import GoSem.ClaimMapViews
import Derived.JoinedTies
import Derived.KernelRfl
namespace Go.Proofs.YtolkipbpklkcnaaGreat
/- THE CELL 'sum', in the pinned program and in every row, IS THE sha256 OF THE DUMP (.gsa) THAT YtolkipbpklkcnaaGreatProg.lean LOADS. Nothing in Lean hashes anything: it is a label: what it is worth is what the hold of that sum in a sandbox is worth. -/
noncomputable def Tryz.pinned : Pinned := { name := "ytolkipbpklkcnaagreat", sum := "9ae4a02e1ad4c473463b143d4f48918580bae09e8fc5112ef45eaf1cc9cca525", checked := Tryz.checked }
namespace Rows
def none {H : Type} : Left H := { results := [], args := [] }

/-- 'cleanroomlaw18.HoldExactly': WHATEVER THE INPUT: true; the input reads as it did. -/
def holdExactlySpec : ChangeSpec := { name := "holdExactly", fn := fun _ => fun
  | [d1, d2, d3] => { results := [.lit (.bool true)], args := [d1, d2, d3] }
  | _ => none }
def holdExactlyRow : OpenClaim := { program := "ytolkipbpklkcnaagreat", sum := "9ae4a02e1ad4c473463b143d4f48918580bae09e8fc5112ef45eaf1cc9cca525", func := "cleanroom/cleanroomlaw18.HoldExactly", spec := "holdExactly", inPlace := ["internal/abi.NoEscape", "internal/bytealg.abigen_runtime_cmpstring"], unfollowed := true, recurses := true, apart := false }
def HoldExactlySaid : Prop := holdExactlyRow.holds Tryz.pinned (OpenSpec.ofChange holdExactlySpec)

/-- ITS FALSE NEIGHBOUR: 'it returns false'. Refute it at one input. -/
def holdExactlyWrong : ChangeSpec := { name := "holdExactly", fn := fun _ => fun
  | [d1, d2, d3] => { results := [.lit (.bool false)], args := [d1, d2, d3] }
  | _ => none }
def HoldExactlyWrongFalsely : Prop := holdExactlyRow.holds Tryz.pinned (OpenSpec.ofChange holdExactlyWrong)

/-- 'cleanroomlaw18.HoldReleases': WHATEVER THE INPUT: true; the input reads as it did. -/
def holdReleasesSpec : ChangeSpec := { name := "holdReleases", fn := fun _ => fun
  | [d1, d2, d3] => { results := [.lit (.bool true)], args := [d1, d2, d3] }
  | _ => none }
def holdReleasesRow : OpenClaim := { program := "ytolkipbpklkcnaagreat", sum := "9ae4a02e1ad4c473463b143d4f48918580bae09e8fc5112ef45eaf1cc9cca525", func := "cleanroom/cleanroomlaw18.HoldReleases", spec := "holdReleases", inPlace := ["internal/abi.NoEscape", "internal/bytealg.abigen_runtime_cmpstring"], unfollowed := true, recurses := true, apart := false }
def HoldReleasesSaid : Prop := holdReleasesRow.holds Tryz.pinned (OpenSpec.ofChange holdReleasesSpec)

/-- ITS FALSE NEIGHBOUR: 'it returns false'. Refute it at one input. -/
def holdReleasesWrong : ChangeSpec := { name := "holdReleases", fn := fun _ => fun
  | [d1, d2, d3] => { results := [.lit (.bool false)], args := [d1, d2, d3] }
  | _ => none }
def HoldReleasesWrongFalsely : Prop := holdReleasesRow.holds Tryz.pinned (OpenSpec.ofChange holdReleasesWrong)

/-- 'cleanroomlaw18.HoldFuture': WHATEVER THE INPUT: true; the input reads as it did. -/
def holdFutureSpec : ChangeSpec := { name := "holdFuture", fn := fun _ => fun
  | [d1, d2, d3] => { results := [.lit (.bool true)], args := [d1, d2, d3] }
  | _ => none }
def holdFutureRow : OpenClaim := { program := "ytolkipbpklkcnaagreat", sum := "9ae4a02e1ad4c473463b143d4f48918580bae09e8fc5112ef45eaf1cc9cca525", func := "cleanroom/cleanroomlaw18.HoldFuture", spec := "holdFuture", inPlace := ["internal/abi.NoEscape", "internal/bytealg.abigen_runtime_cmpstring"], unfollowed := true, recurses := true, apart := false }
def HoldFutureSaid : Prop := holdFutureRow.holds Tryz.pinned (OpenSpec.ofChange holdFutureSpec)

/-- ITS FALSE NEIGHBOUR: 'it returns false'. Refute it at one input. -/
def holdFutureWrong : ChangeSpec := { name := "holdFuture", fn := fun _ => fun
  | [d1, d2, d3] => { results := [.lit (.bool false)], args := [d1, d2, d3] }
  | _ => none }
def HoldFutureWrongFalsely : Prop := holdFutureRow.holds Tryz.pinned (OpenSpec.ofChange holdFutureWrong)

/-- 'cleanroomlaw18.HoldKnown': WHATEVER THE INPUT: true; the input reads as it did. -/
def holdKnownSpec : ChangeSpec := { name := "holdKnown", fn := fun _ => fun
  | [d1, d2, d3, d4] => { results := [.lit (.bool true)], args := [d1, d2, d3, d4] }
  | _ => none }
def holdKnownRow : OpenClaim := { program := "ytolkipbpklkcnaagreat", sum := "9ae4a02e1ad4c473463b143d4f48918580bae09e8fc5112ef45eaf1cc9cca525", func := "cleanroom/cleanroomlaw18.HoldKnown", spec := "holdKnown", inPlace := ["internal/abi.NoEscape", "internal/bytealg.abigen_runtime_cmpstring"], unfollowed := true, recurses := true, apart := false }
def HoldKnownSaid : Prop := holdKnownRow.holds Tryz.pinned (OpenSpec.ofChange holdKnownSpec)

/-- ITS FALSE NEIGHBOUR: 'it returns false'. Refute it at one input. -/
def holdKnownWrong : ChangeSpec := { name := "holdKnown", fn := fun _ => fun
  | [d1, d2, d3, d4] => { results := [.lit (.bool false)], args := [d1, d2, d3, d4] }
  | _ => none }
def HoldKnownWrongFalsely : Prop := holdKnownRow.holds Tryz.pinned (OpenSpec.ofChange holdKnownWrong)

/-- 'cleanroomlaw18.HoldMatchesReference': WHATEVER THE INPUT: true; the input reads as it did. -/
def holdMatchesReferenceSpec : ChangeSpec := { name := "holdMatchesReference", fn := fun _ => fun
  | [d1, d2, d3, d4, d5] => { results := [.lit (.bool true)], args := [d1, d2, d3, d4, d5] }
  | _ => none }
def holdMatchesReferenceRow : OpenClaim := { program := "ytolkipbpklkcnaagreat", sum := "9ae4a02e1ad4c473463b143d4f48918580bae09e8fc5112ef45eaf1cc9cca525", func := "cleanroom/cleanroomlaw18.HoldMatchesReference", spec := "holdMatchesReference", inPlace := ["internal/abi.NoEscape", "internal/bytealg.abigen_runtime_cmpstring"], unfollowed := true, recurses := true, apart := false }
def HoldMatchesReferenceSaid : Prop := holdMatchesReferenceRow.holds Tryz.pinned (OpenSpec.ofChange holdMatchesReferenceSpec)

/-- ITS FALSE NEIGHBOUR: 'it returns false'. Refute it at one input. -/
def holdMatchesReferenceWrong : ChangeSpec := { name := "holdMatchesReference", fn := fun _ => fun
  | [d1, d2, d3, d4, d5] => { results := [.lit (.bool false)], args := [d1, d2, d3, d4, d5] }
  | _ => none }
def HoldMatchesReferenceWrongFalsely : Prop := holdMatchesReferenceRow.holds Tryz.pinned (OpenSpec.ofChange holdMatchesReferenceWrong)

/-- 'cleanroomlaw18.HoldHeld': WHATEVER THE INPUT: true; the input reads as it did. -/
def holdHeldSpec : ChangeSpec := { name := "holdHeld", fn := fun _ => fun
  | [d1, d2, d3, d4] => { results := [.lit (.bool true)], args := [d1, d2, d3, d4] }
  | _ => none }
def holdHeldRow : OpenClaim := { program := "ytolkipbpklkcnaagreat", sum := "9ae4a02e1ad4c473463b143d4f48918580bae09e8fc5112ef45eaf1cc9cca525", func := "cleanroom/cleanroomlaw18.HoldHeld", spec := "holdHeld", inPlace := ["internal/abi.NoEscape", "internal/bytealg.abigen_runtime_cmpstring"], unfollowed := true, recurses := true, apart := false }
def HoldHeldSaid : Prop := holdHeldRow.holds Tryz.pinned (OpenSpec.ofChange holdHeldSpec)

/-- ITS FALSE NEIGHBOUR: 'it returns false'. Refute it at one input. -/
def holdHeldWrong : ChangeSpec := { name := "holdHeld", fn := fun _ => fun
  | [d1, d2, d3, d4] => { results := [.lit (.bool false)], args := [d1, d2, d3, d4] }
  | _ => none }
def HoldHeldWrongFalsely : Prop := holdHeldRow.holds Tryz.pinned (OpenSpec.ofChange holdHeldWrong)

/- THE SECOND FORM. 'bulk': how many values and letters a reading holds, each counted each time it is reached (what is shared counts as often as it is met; a slice's spare places count too). A statement '..UptoSaid' is the law's where the arguments, and the package variables that the reading takes, are together of bulk at most 1048576: NARROWER than '..Said'. Prove '..Said' where nothing that the law and all that it calls make is longer than what came in: it says more and counts as full. Else prove '..UptoSaid'. A law counts once. -/
mutual
def uptoBulk {H : Type} : DataW H → Nat
  | .lit (.string bytes) => bytes.length + 1
  | .lit _ => 1
  | .nil => 1
  | .ptr d => uptoBulk d + 1
  | .slice elems spare => uptoBulkAll elems + uptoBulkAll spare + 1
  | .agg parts => uptoBulkAll parts + 1
  | .iface _ d => uptoBulk d + 1
  | .map entries => uptoBulkEntries entries + 1
  | .held _ => 1
def uptoBulkAll {H : Type} : List (DataW H) → Nat
  | [] => 0
  | d :: r => uptoBulk d + uptoBulkAll r
def uptoBulkEntries {H : Type} : List (Lit × DataW H) → Nat
  | [] => 0
  | x :: r => uptoBulkEntry x + uptoBulkEntries r
def uptoBulkEntry {H : Type} : Lit × DataW H → Nat
  | (.string bytes, d) => bytes.length + uptoBulk d + 1
  | (_, d) => uptoBulk d + 1
 end
def uptoSmall : (H : Type) → List (DataW H) → Bool := fun _ ds => decide (uptoBulkAll ds ≤ 1048576)
def OpenSpec.upto (s : _root_.Go.ChangeSpec) : _root_.Go.OpenSpec := { _root_.Go.OpenSpec.ofChange s with cond := some uptoSmall }

/-- 'cleanroomlaw18.HoldExactly', WHERE WHAT IT READS IS OF BULK AT MOST 1048576: true; the input reads as it did. -/
def holdExactlyUptoRow : OpenClaim := { program := "ytolkipbpklkcnaagreat", sum := "9ae4a02e1ad4c473463b143d4f48918580bae09e8fc5112ef45eaf1cc9cca525", func := "cleanroom/cleanroomlaw18.HoldExactly", spec := "holdExactly", inPlace := ["internal/abi.NoEscape", "internal/bytealg.abigen_runtime_cmpstring"], unfollowed := true, recurses := true, apart := false, narrowed := true }
def HoldExactlyUptoSaid : Prop := holdExactlyUptoRow.holds Tryz.pinned (OpenSpec.upto holdExactlySpec)

/-- 'cleanroomlaw18.HoldReleases', WHERE WHAT IT READS IS OF BULK AT MOST 1048576: true; the input reads as it did. -/
def holdReleasesUptoRow : OpenClaim := { program := "ytolkipbpklkcnaagreat", sum := "9ae4a02e1ad4c473463b143d4f48918580bae09e8fc5112ef45eaf1cc9cca525", func := "cleanroom/cleanroomlaw18.HoldReleases", spec := "holdReleases", inPlace := ["internal/abi.NoEscape", "internal/bytealg.abigen_runtime_cmpstring"], unfollowed := true, recurses := true, apart := false, narrowed := true }
def HoldReleasesUptoSaid : Prop := holdReleasesUptoRow.holds Tryz.pinned (OpenSpec.upto holdReleasesSpec)

/-- 'cleanroomlaw18.HoldFuture', WHERE WHAT IT READS IS OF BULK AT MOST 1048576: true; the input reads as it did. -/
def holdFutureUptoRow : OpenClaim := { program := "ytolkipbpklkcnaagreat", sum := "9ae4a02e1ad4c473463b143d4f48918580bae09e8fc5112ef45eaf1cc9cca525", func := "cleanroom/cleanroomlaw18.HoldFuture", spec := "holdFuture", inPlace := ["internal/abi.NoEscape", "internal/bytealg.abigen_runtime_cmpstring"], unfollowed := true, recurses := true, apart := false, narrowed := true }
def HoldFutureUptoSaid : Prop := holdFutureUptoRow.holds Tryz.pinned (OpenSpec.upto holdFutureSpec)

/-- 'cleanroomlaw18.HoldKnown', WHERE WHAT IT READS IS OF BULK AT MOST 1048576: true; the input reads as it did. -/
def holdKnownUptoRow : OpenClaim := { program := "ytolkipbpklkcnaagreat", sum := "9ae4a02e1ad4c473463b143d4f48918580bae09e8fc5112ef45eaf1cc9cca525", func := "cleanroom/cleanroomlaw18.HoldKnown", spec := "holdKnown", inPlace := ["internal/abi.NoEscape", "internal/bytealg.abigen_runtime_cmpstring"], unfollowed := true, recurses := true, apart := false, narrowed := true }
def HoldKnownUptoSaid : Prop := holdKnownUptoRow.holds Tryz.pinned (OpenSpec.upto holdKnownSpec)

/-- 'cleanroomlaw18.HoldMatchesReference', WHERE WHAT IT READS IS OF BULK AT MOST 1048576: true; the input reads as it did. -/
def holdMatchesReferenceUptoRow : OpenClaim := { program := "ytolkipbpklkcnaagreat", sum := "9ae4a02e1ad4c473463b143d4f48918580bae09e8fc5112ef45eaf1cc9cca525", func := "cleanroom/cleanroomlaw18.HoldMatchesReference", spec := "holdMatchesReference", inPlace := ["internal/abi.NoEscape", "internal/bytealg.abigen_runtime_cmpstring"], unfollowed := true, recurses := true, apart := false, narrowed := true }
def HoldMatchesReferenceUptoSaid : Prop := holdMatchesReferenceUptoRow.holds Tryz.pinned (OpenSpec.upto holdMatchesReferenceSpec)

/-- 'cleanroomlaw18.HoldHeld', WHERE WHAT IT READS IS OF BULK AT MOST 1048576: true; the input reads as it did. -/
def holdHeldUptoRow : OpenClaim := { program := "ytolkipbpklkcnaagreat", sum := "9ae4a02e1ad4c473463b143d4f48918580bae09e8fc5112ef45eaf1cc9cca525", func := "cleanroom/cleanroomlaw18.HoldHeld", spec := "holdHeld", inPlace := ["internal/abi.NoEscape", "internal/bytealg.abigen_runtime_cmpstring"], unfollowed := true, recurses := true, apart := false, narrowed := true }
def HoldHeldUptoSaid : Prop := holdHeldUptoRow.holds Tryz.pinned (OpenSpec.upto holdHeldSpec)

end Rows
end Go.Proofs.YtolkipbpklkcnaaGreat
