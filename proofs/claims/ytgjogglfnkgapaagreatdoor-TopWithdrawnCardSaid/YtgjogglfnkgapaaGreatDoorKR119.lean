import Derived.Test.YtgjogglfnkgapaaGreatDoorKR118
import Derived.Shelf.Small.Bits
import Derived.Shelf.Small.Strs
import Derived.Shelf.Strconv.Itoa0
import Derived.Shelf.Sort.Plain
import Derived.Shelf.Bits.Mul64
import Derived.Shelf.Slices.In.SortNone
import Derived.Ground.SlgfProg
import Derived.Shelf.SlicesE.IndexFunc
namespace Go.Proofs
open Go.Proofs.Tryz
open Go.Shelf
def P2 : Go.Shelf.Ren := ⟨fun | 189 => 54 | 125 => 124 | 257 => 123 | 128 => 251 | 129 => 252 | 294 => 242 | 295 => 243 | 296 => 244 | 297 => 245 | 298 => 246 | 299 => 247 | 216 => 248 | 300 => 249 | 301 => 250 | 328 => 313 | 329 => 314 | 330 => 315 | 331 => 316 | 332 => 317 | 215 => 162 | 343 => 373 | n => n, fun | 28 => 34 | 3 => 3 | 46 => 185 | 0 => 0 | 51 => 275 | 53 => 277 | 4 => 4 | 183 => 333 | 182 => 332 | 131 => 290 | 5 => 5 | 9 => 9 | 218 => 385 | 222 => 311 | 228 => 432 | 229 => 265 | n => n, fun | n => n⟩
theorem O9 : Go.Proofs.Lays.n189 Tryz.prog P2 := {
 mixed := by kernel_rfl
 f125 := func124.trans (congrArg some kQ)
 f128 := func251.trans (congrArg some kQ)
 f129 := func252.trans (congrArg some kQ)
 f189 := func54.trans (congrArg some kQ)
 f215 := func162.trans (congrArg some kQ)
 f216 := func248.trans (congrArg some kQ)
 f257 := func123.trans (congrArg some kQ)
 f294 := func242.trans (congrArg some kQ)
 f295 := func243.trans (congrArg some kQ)
 f296 := func244.trans (congrArg some kQ)
 f297 := func245.trans (congrArg some kQ)
 f298 := func246.trans (congrArg some kQ)
 f299 := func247.trans (congrArg some kQ)
 f300 := func249.trans (congrArg some kQ)
 f301 := func250.trans (congrArg some kQ)
 f328 := func313.trans (congrArg some kQ)
 f329 := func314.trans (congrArg some kQ)
 f330 := func315.trans (congrArg some kQ)
 f331 := func316.trans (congrArg some kQ)
 f332 := func317.trans (congrArg some kQ)
 f343 := func373.trans (congrArg some kQ)
 t0 := underlying0
 a0 := isAgg0
 z0 := sizeOf0
 v0 := zeroValue0
 t3 := underlying3
 a3 := isAgg3
 z3 := sizeOf3
 v3 := zeroValue3
 t4 := underlying4
 a4 := isAgg4
 z4 := sizeOf4
 v4 := zeroValue4
 t5 := underlying5
 a5 := isAgg5
 z5 := sizeOf5
 v5 := zeroValue5
 t9 := underlying9
 a9 := isAgg9
 z9 := sizeOf9
 v9 := zeroValue9
 t28 := underlying34
 a28 := isAgg34
 z28 := sizeOf34
 v28 := zeroValue34
 t46 := underlying185
 a46 := isAgg185
 z46 := sizeOf185
 v46 := zeroValue185
 t51 := underlying275
 a51 := isAgg275
 z51 := sizeOf275
 v51 := zeroValue275
 t53 := underlying277
 a53 := isAgg277
 z53 := sizeOf277
 v53 := zeroValue277
 t131 := underlying290
 a131 := isAgg290
 z131 := sizeOf290
 v131 := zeroValue290
 t182 := underlying332
 a182 := isAgg332
 z182 := sizeOf332
 v182 := zeroValue332
 t183 := underlying333
 a183 := isAgg333
 z183 := sizeOf333
 v183 := zeroValue333
 t218 := underlying385
 a218 := isAgg385
 z218 := sizeOf385
 v218 := zeroValue385
 t222 := underlying311
 a222 := isAgg311
 z222 := sizeOf311
 v222 := zeroValue311
 t228 := underlying432
 a228 := isAgg432
 z228 := sizeOf432
 v228 := zeroValue432
 t229 := underlying265
 a229 := isAgg265
 z229 := sizeOf265
 v229 := zeroValue265 }
open Go.Sort Go.RowKit in
theorem Tryz.slices_Sort_int (blk off cap : Nat) (zs : List Int) (w : World) (hH : Holds (Value.int .i64) w blk off zs.toArray) (hblk : blk < w.heap.size) (hsz : zs.length < 4611686018427387904) :
 Calls Tryz.prog 54 #[.slice (some ⟨blk, off, none⟩) zs.length cap] w fun e w' =>
   e = .returned (.tuple #[]) ∧ ∃ n os, w' = grow (putRow (Value.int .i64) (Sort.ahead w n) blk off (zs.mergeSort fun x y => decide (x ≤ y)).toArray) os := Any.slices_Sort_int O9 blk off cap zs w hH hblk hsz
open Go.RowKit Go.Sort in
/-- .. and plain. (LAID: no walk: one application.) -/
theorem Tryz.slices_Sort_int_none (p : Option Addr) (cap : Nat) (w : World) :
 Calls Tryz.prog 54 #[.slice p 0 cap] w fun e w' => e = .returned (.tuple #[]) ∧ w' = w := Any.slices_Sort_int_none O9 p cap w
end Go.Proofs
