import Derived.Test.YtmimclgihlhaeaaGreatKR712
import Derived.Shelf.Small.Bits
import Derived.Shelf.Small.Strs
import Derived.Shelf.Strconv.Itoa0
import Derived.Shelf.Sort.Plain
import Derived.Shelf.Slices.In.SortNone
import Derived.Ground.SlsfProg
import Derived.Shelf.SlSortCmp.InsertionK
import Derived.Shelf.SlSortCmp.SiftDownK
import Derived.Shelf.SlSortCmp.HeapSortK
import Derived.Shelf.SlSortCmp.MedianK
import Derived.Shelf.SlSortCmp.PivotK
import Derived.Shelf.SlSortCmp.ReverseRangeK
import Derived.Shelf.SlSortCmp.PartialInsertionK
import Derived.Shelf.SlSortCmp.PartitionEqualK
import Derived.Shelf.SlSortCmp.PartitionK
import Derived.Shelf.SlSortCmp.PdqK
import Derived.Shelf.SlSortCmp.WholeK
import Derived.Shelf.SlSortCmp.NoneTotal
section
namespace Go.Proofs
open Go.Proofs.Tryz
open Go.Shelf
def Oq : Go.Shelf.Ren := ⟨fun | 189 => 38 | 125 => 95 | 257 => 94 | 128 => 154 | 129 => 155 | 294 => 145 | 295 => 146 | 296 => 147 | 297 => 148 | 298 => 149 | 299 => 150 | 216 => 151 | 300 => 152 | 301 => 153 | 328 => 175 | 329 => 176 | 330 => 177 | 331 => 178 | 332 => 179 | 215 => 106 | 343 => 193 | n => n, fun | 28 => 30 | 3 => 3 | 46 => 147 | 0 => 0 | 51 => 188 | 53 => 190 | 4 => 4 | 183 => 182 | 182 => 181 | 131 => 159 | 5 => 5 | 9 => 9 | 218 => 212 | 222 => 164 | 228 => 226 | 229 => 33 | n => n, fun | n => n⟩
theorem Nq : Go.Proofs.Lays.n189 Tryz.prog Oq := {
 mixed := by kernel_rfl
 f125 := func95.trans (congrArg some kQ)
 f128 := func154.trans (congrArg some kQ)
 f129 := func155.trans (congrArg some kQ)
 f189 := func38.trans (congrArg some kQ)
 f215 := func106.trans (congrArg some kQ)
 f216 := func151.trans (congrArg some kQ)
 f257 := func94.trans (congrArg some kQ)
 f294 := func145.trans (congrArg some kQ)
 f295 := func146.trans (congrArg some kQ)
 f296 := func147.trans (congrArg some kQ)
 f297 := func148.trans (congrArg some kQ)
 f298 := func149.trans (congrArg some kQ)
 f299 := func150.trans (congrArg some kQ)
 f300 := func152.trans (congrArg some kQ)
 f301 := func153.trans (congrArg some kQ)
 f328 := func175.trans (congrArg some kQ)
 f329 := func176.trans (congrArg some kQ)
 f330 := func177.trans (congrArg some kQ)
 f331 := func178.trans (congrArg some kQ)
 f332 := func179.trans (congrArg some kQ)
 f343 := func193.trans (congrArg some kQ)
 t0 := underlying0
 a0 := isAgg0
 z0 := sizeOf0
 v0 := zeroValue0
 t3 := underlying3
 a3 := isAgg3
 z3 := sizeOf3
 v3 := zeroValue3
 t4 := underlying4
 a4 := isAgg4
 z4 := sizeOf4
 v4 := zeroValue4
 t5 := underlying5
 a5 := isAgg5
 z5 := sizeOf5
 v5 := zeroValue5
 t9 := underlying9
 a9 := isAgg9
 z9 := sizeOf9
 v9 := zeroValue9
 t28 := underlying30
 a28 := isAgg30
 z28 := sizeOf30
 v28 := zeroValue30
 t46 := underlying147
 a46 := isAgg147
 z46 := sizeOf147
 v46 := zeroValue147
 t51 := underlying188
 a51 := isAgg188
 z51 := sizeOf188
 v51 := zeroValue188
 t53 := underlying190
 a53 := isAgg190
 z53 := sizeOf190
 v53 := zeroValue190
 t131 := underlying159
 a131 := isAgg159
 z131 := sizeOf159
 v131 := zeroValue159
 t182 := underlying181
 a182 := isAgg181
 z182 := sizeOf181
 v182 := zeroValue181
 t183 := underlying182
 a183 := isAgg182
 z183 := sizeOf182
 v183 := zeroValue182
 t218 := underlying212
 a218 := isAgg212
 z218 := sizeOf212
 v218 := zeroValue212
 t222 := underlying164
 a222 := isAgg164
 z222 := sizeOf164
 v222 := zeroValue164
 t228 := underlying226
 a228 := isAgg226
 z228 := sizeOf226
 v228 := zeroValue226
 t229 := underlying33
 a229 := isAgg33
 z229 := sizeOf33
 v229 := zeroValue33 }
open Go.Sort Go.RowKit in
theorem Tryz.slices_Sort_int (blk off cap : Nat) (zs : List Int) (w : World) (hH : Holds (Value.int .i64) w blk off zs.toArray) (hblk : blk < w.heap.size) (hsz : zs.length < 4611686018427387904) :
 Calls Tryz.prog 38 #[.slice (some ⟨blk, off, none⟩) zs.length cap] w fun e w' =>
   e = .returned (.tuple #[]) ∧ ∃ n os, w' = grow (putRow (Value.int .i64) (Sort.ahead w n) blk off (zs.mergeSort fun x y => decide (x ≤ y)).toArray) os := Any.slices_Sort_int Nq blk off cap zs w hH hblk hsz
open Go.RowKit Go.Sort in
/-- .. and plain. (LAID: no walk: one application.) -/
theorem Tryz.slices_Sort_int_none (p : Option Addr) (cap : Nat) (w : World) :
 Calls Tryz.prog 38 #[.slice p 0 cap] w fun e w' => e = .returned (.tuple #[]) ∧ w' = w := Any.slices_Sort_int_none Nq p cap w
end Go.Proofs
end
