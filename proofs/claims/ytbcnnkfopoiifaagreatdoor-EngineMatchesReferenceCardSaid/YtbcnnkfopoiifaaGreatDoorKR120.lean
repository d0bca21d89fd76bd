import Derived.Test.YtbcnnkfopoiifaaGreatDoorKR119
import Derived.Shelf.Strings.Builder1
import Derived.Shelf.Small.Bits
import Derived.Shelf.Small.Strs
import Derived.Shelf.Strconv.Itoa0
import Derived.Shelf.Sort.Plain
import Derived.Ground.Names2Prog
import Derived.Shelf.Slices.Clone
import Derived.Shelf.Slices.SearchI
import Derived.Shelf.Slices.In.SortNone
import Derived.Ground.SlgnProg
import Derived.Shelf.SlicesE.Clone
namespace Go.Proofs
open Go.Proofs.Tryz
open Go.Shelf
def Sb:Go.Shelf.Ren:=⟨fun|189=>41|125=>91|257=>90|128=>152|129=>153|294=>143|295=>144|296=>145|297=>146|298=>147|299=>148|216=>149|300=>150|301=>151|328=>194|329=>195|330=>196|331=>197|332=>198|215=>171|343=>230|n=>n,fun|28=>23|3=>3|46=>148|0=>0|51=>197|53=>184|4=>4|183=>189|182=>188|131=>194|5=>5|9=>9|218=>225|222=>159|228=>252|229=>221|n=>n,fun|n=>n⟩
theorem Rh:Go.Proofs.Lays.n189 prog Sb:={
 mixed:=by kernel_rfl
 f125:=func91.trans (a_ some kQ)
 f128:=func152.trans (a_ some kQ)
 f129:=func153.trans (a_ some kQ)
 f189:=func41.trans (a_ some kQ)
 f215:=func171.trans (a_ some kQ)
 f216:=func149.trans (a_ some kQ)
 f257:=func90.trans (a_ some kQ)
 f294:=func143.trans (a_ some kQ)
 f295:=func144.trans (a_ some kQ)
 f296:=func145.trans (a_ some kQ)
 f297:=func146.trans (a_ some kQ)
 f298:=func147.trans (a_ some kQ)
 f299:=func148.trans (a_ some kQ)
 f300:=func150.trans (a_ some kQ)
 f301:=func151.trans (a_ some kQ)
 f328:=func194.trans (a_ some kQ)
 f329:=func195.trans (a_ some kQ)
 f330:=func196.trans (a_ some kQ)
 f331:=func197.trans (a_ some kQ)
 f332:=func198.trans (a_ some kQ)
 f343:=func230.trans (a_ some kQ)
 t0:=underlying0
 a0:=isAgg0
 z0:=sizeOf0
 v0:=zeroValue0
 t3:=lh
 a3:=ly
 z3:=lf
 v3:=ls
 t4:=underlying4
 a4:=isAgg4
 z4:=sizeOf4
 v4:=zeroValue4
 t5:=nb
 a5:=isAgg5
 z5:=sizeOf5
 v5:=zeroValue5
 t9:=lu
 a9:=isAgg9
 z9:=sizeOf9
 v9:=zeroValue9
 t28:=lg
 a28:=isAgg23
 z28:=sizeOf23
 v28:=zeroValue23
 t46:=mj
 a46:=isAgg148
 z46:=sizeOf148
 v46:=zeroValue148
 t51:=underlying197
 a51:=isAgg197
 z51:=sizeOf197
 v51:=zeroValue197
 t53:=lz
 a53:=isAgg184
 z53:=sizeOf184
 v53:=zeroValue184
 t131:=underlying194
 a131:=isAgg194
 z131:=sizeOf194
 v131:=zeroValue194
 t182:=underlying188
 a182:=isAgg188
 z182:=sizeOf188
 v182:=zeroValue188
 t183:=underlying189
 a183:=isAgg189
 z183:=sizeOf189
 v183:=zeroValue189
 t218:=underlying225
 a218:=isAgg225
 z218:=sizeOf225
 v218:=zeroValue225
 t222:=underlying159
 a222:=isAgg159
 z222:=sizeOf159
 v222:=zeroValue159
 t228:=underlying252
 a228:=isAgg252
 z228:=sizeOf252
 v228:=zeroValue252
 t229:=underlying221
 a229:=isAgg221
 z229:=sizeOf221
 v229:=zeroValue221 }
open Go.Sort Go.RowKit in
theorem Tryz.slices_Sort_int(blk off cap:Nat)(zs:List Int)(w:World)(hH:Holds (Value.int .i64) w blk off zs.toArray)(hblk:blk<w.heap.size)(hsz:zs.length<4611686018427387904):
 Calls prog 41 #[.slice (some ⟨blk,off,none⟩) zs.length cap] w fun e w'=>
   e=.returned (.tuple #[])∧∃n os,w'=grow (putRow (Value.int .i64) (Sort.ahead w n) blk off (zs.mergeSort fun x y=>decide (x≤y)).toArray) os:=Any.slices_Sort_int Rh blk off cap zs w hH hblk hsz
open Go.RowKit Go.Sort in
/-- .. and plain. (LAID: no walk: one application.) -/
theorem Tryz.slices_Sort_int_none(p:Option Addr)(cap:Nat)(w:World):
 Calls prog 41 #[.slice p 0 cap] w fun e w'=>e=.returned (.tuple #[])∧w'=w:=Any.slices_Sort_int_none Rh p cap w
end Go.Proofs
