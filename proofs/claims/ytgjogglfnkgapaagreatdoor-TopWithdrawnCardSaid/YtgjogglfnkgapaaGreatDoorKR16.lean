import Derived.Test.YtgjogglfnkgapaaGreatDoorKR15
import Derived.Test.YtgjogglfnkgapaaGreatDoorRows
import Derived.MakeChecks
import Derived.LaidLaws
import Derived.Handed
import Derived.Stop.Joined
namespace Go.Proofs.YtgjogglfnkgapaaGreatDoor
open Go.Proofs.Tryz
open Go
def eW : List (String × DataW Unit) := [("cleanroom/ratio.errMisfit", Rows.laid_cleanroom_ratio_errMisfit), ("cleanroom/control.errSize", Rows.laid_cleanroom_control_errSize)]
noncomputable def low : Nat := (World.holding Tryz.prog default ⟨#[], #[], []⟩).heap.size
noncomputable def lv (h : Array Obj) (g k : Nat) : Array Obj := h.modify g fun
 | .cells _ t frozen => .cells #[.iface 458 (.pointer (some ⟨low + k, 0, none⟩))] t frozen
 | o => o
noncomputable def laidWorld (os : Os) : World :=
 let w0 := World.holding Tryz.prog os ⟨#[.cells #[.string ⟨#[109, 105, 115, 102, 105, 116]⟩] 480, .cells #[.string ⟨#[115, 105, 122, 101]⟩] 480], #[], []⟩
 { w0 with heap := (lv (lv w0.heap 0 0) 3 1) }
theorem Uh (os : Os) (args : Array Value) : laidMetH Tryz.prog eW ((laidWorld os).forCall (fun _ _ => 0) ⟨#[], args, []⟩).memory := by
 rw [Go.MakeChecks.laidMetH_plain _ _ _ (by kernel_rfl)]
 exact laidMet_of_run (ps := [.cell 0 0, .cell (low + 0) 0, .cell 3 0, .cell (low + 1) 0]) 8 kQ kQ kQ
end Go.Proofs.YtgjogglfnkgapaaGreatDoor
