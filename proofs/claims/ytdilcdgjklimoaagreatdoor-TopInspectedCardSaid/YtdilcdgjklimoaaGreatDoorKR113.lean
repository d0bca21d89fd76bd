import Derived.Test.YtdilcdgjklimoaaGreatDoorKR112
import Derived.Shelf.Strings.Builder1
import Derived.Shelf.Small.Bits
import Derived.Shelf.Small.Strs
import Derived.Shelf.Strconv.Itoa0
import Derived.Shelf.Sort.Plain
import Derived.Shelf.Bits.Mul64
import Derived.Ground.Names2Prog
import Derived.Shelf.Slices.Clone
import Derived.Shelf.Slices.SearchI
import Derived.Shelf.Slices.In.SortNone
import Derived.Ground.SlgnProg
import Derived.Shelf.SlicesE.Clone
import Derived.Ground.SlgfProg
import Derived.Shelf.SlicesE.IndexFunc
import Derived.Ground.SlsfProg
import Derived.Shelf.SlSortCmp.InsertionK
import Derived.Shelf.SlSortCmp.SiftDownK
import Derived.Shelf.SlSortCmp.HeapSortK
import Derived.Shelf.SlSortCmp.MedianK
import Derived.Shelf.SlSortCmp.PivotK
import Derived.Shelf.SlSortCmp.ReverseRangeK
import Derived.Shelf.SlSortCmp.PartialInsertionK
import Derived.Shelf.SlSortCmp.PartitionEqualK
import Derived.Shelf.SlSortCmp.PartitionK
import Derived.Shelf.SlSortCmp.PdqK
import Derived.Shelf.SlSortCmp.WholeK
import Derived.Shelf.SlSortCmp.NoneTotal
namespace Go.Proofs
open Go.Proofs.Tryz
open Go.Shelf
def O6:Go.Shelf.Ren:=⟨fun|189=>30|125=>92|257=>91|128=>177|129=>178|294=>168|295=>169|296=>170|297=>171|298=>172|299=>173|216=>174|300=>175|301=>176|328=>211|329=>212|330=>213|331=>214|332=>215|215=>100|343=>235|n=>n,fun|28=>37|3=>3|46=>136|0=>0|51=>195|53=>197|4=>4|183=>246|182=>245|131=>205|5=>5|9=>9|218=>291|222=>226|228=>315|229=>185|n=>n,fun|n=>n⟩
theorem N6:Go.Proofs.Lays.n189 Tryz.prog O6:={
 mixed:=by kernel_rfl
 f125:=func92.trans (congrArg some kQ)
 f128:=func177.trans (congrArg some kQ)
 f129:=func178.trans (congrArg some kQ)
 f189:=func30.trans (congrArg some kQ)
 f215:=func100.trans (congrArg some kQ)
 f216:=func174.trans (congrArg some kQ)
 f257:=func91.trans (congrArg some kQ)
 f294:=func168.trans (congrArg some kQ)
 f295:=func169.trans (congrArg some kQ)
 f296:=func170.trans (congrArg some kQ)
 f297:=func171.trans (congrArg some kQ)
 f298:=func172.trans (congrArg some kQ)
 f299:=func173.trans (congrArg some kQ)
 f300:=func175.trans (congrArg some kQ)
 f301:=func176.trans (congrArg some kQ)
 f328:=func211.trans (congrArg some kQ)
 f329:=func212.trans (congrArg some kQ)
 f330:=func213.trans (congrArg some kQ)
 f331:=func214.trans (congrArg some kQ)
 f332:=func215.trans (congrArg some kQ)
 f343:=func235.trans (congrArg some kQ)
 t0:=underlying0
 a0:=isAgg0
 z0:=sizeOf0
 v0:=zeroValue0
 t3:=underlying3
 a3:=isAgg3
 z3:=sizeOf3
 v3:=zeroValue3
 t4:=underlying4
 a4:=isAgg4
 z4:=sizeOf4
 v4:=zeroValue4
 t5:=underlying5
 a5:=isAgg5
 z5:=sizeOf5
 v5:=zeroValue5
 t9:=underlying9
 a9:=isAgg9
 z9:=sizeOf9
 v9:=zeroValue9
 t28:=underlying37
 a28:=isAgg37
 z28:=sizeOf37
 v28:=zeroValue37
 t46:=underlying136
 a46:=isAgg136
 z46:=sizeOf136
 v46:=zeroValue136
 t51:=underlying195
 a51:=isAgg195
 z51:=sizeOf195
 v51:=zeroValue195
 t53:=underlying197
 a53:=isAgg197
 z53:=sizeOf197
 v53:=zeroValue197
 t131:=underlying205
 a131:=isAgg205
 z131:=sizeOf205
 v131:=zeroValue205
 t182:=underlying245
 a182:=isAgg245
 z182:=sizeOf245
 v182:=zeroValue245
 t183:=underlying246
 a183:=isAgg246
 z183:=sizeOf246
 v183:=zeroValue246
 t218:=underlying291
 a218:=isAgg291
 z218:=sizeOf291
 v218:=zeroValue291
 t222:=underlying226
 a222:=isAgg226
 z222:=sizeOf226
 v222:=zeroValue226
 t228:=underlying315
 a228:=isAgg315
 z228:=sizeOf315
 v228:=zeroValue315
 t229:=underlying185
 a229:=isAgg185
 z229:=sizeOf185
 v229:=zeroValue185 }
open Go.Sort Go.RowKit in
theorem Tryz.slices_Sort_int(blk off cap:Nat)(zs:List Int)(w:World)(hH:Holds (Value.int .i64) w blk off zs.toArray)(hblk:blk<w.heap.size)(hsz:zs.length<4611686018427387904):
 Calls Tryz.prog 30 #[.slice (some ⟨blk,off,none⟩) zs.length cap] w fun e w'=>
   e=.returned (.tuple #[])∧∃n os,w'=grow (putRow (Value.int .i64) (Sort.ahead w n) blk off (zs.mergeSort fun x y=>decide (x≤y)).toArray) os:=Any.slices_Sort_int N6 blk off cap zs w hH hblk hsz
open Go.RowKit Go.Sort in
/-- .. and plain. (LAID: no walk: one application.) -/
theorem Tryz.slices_Sort_int_none(p:Option Addr)(cap:Nat)(w:World):
 Calls Tryz.prog 30 #[.slice p 0 cap] w fun e w'=>e=.returned (.tuple #[])∧w'=w:=Any.slices_Sort_int_none N6 p cap w
end Go.Proofs
