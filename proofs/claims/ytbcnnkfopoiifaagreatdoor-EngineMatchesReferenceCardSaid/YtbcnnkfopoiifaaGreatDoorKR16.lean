import Derived.Test.YtbcnnkfopoiifaaGreatDoorKR15
import Derived.Test.YtbcnnkfopoiifaaGreatDoorRows
import Derived.MakeChecks
import Derived.LaidLaws
import Derived.Handed
import Derived.Stop.Joined
namespace Go.Proofs.YtbcnnkfopoiifaaGreatDoor
open Go.Proofs.Tryz
open Go
def jF:List (String×DataW Unit):=[("cleanroom/ratio.errMisfit",Rows.laid_cleanroom_ratio_errMisfit),("cleanroom/control.errSize",Rows.laid_cleanroom_control_errSize)]
noncomputable def low:Nat:=(World.holding prog default ⟨#[],#[],[]⟩).heap.size
noncomputable def lv(h:Array Obj)(g k:Nat):Array Obj:=h.modify g fun
 |.cells _ t frozen=>.cells #[.iface 266 (.pointer (some ⟨low+k,0,none⟩))] t frozen
 |o=>o
noncomputable def laidWorld(os:Os):World:=
 let w0:=World.holding prog os ⟨#[.cells #[.string ⟨#[109,105,115,102,105,116]⟩] 288,.cells #[.string ⟨#[115,105,122,101]⟩] 288],#[],[]⟩
 { w0 with heap:=(lv (lv w0.heap 2 0) 0 1) }
theorem V7(os:Os)(args:Array Value):laidMetH prog jF ((laidWorld os).forCall (fun _ _=>0) ⟨#[],args,[]⟩).memory:=by
 rw[Go.MakeChecks.laidMetH_plain _ _ _ (by kernel_rfl)]
 exact laidMet_of_run (ps:=[.cell 2 0,.cell (low+0) 0,.cell 0 0,.cell (low+1) 0]) 8 kQ kQ kQ
end Go.Proofs.YtbcnnkfopoiifaaGreatDoor
