import Derived.Test.YtbbpkdlehlamlaaGreatDoorKR418
import Derived.Shelf.Small.Bits
import Derived.Shelf.Small.Strs
import Derived.Shelf.Strconv.Itoa0
import Derived.Shelf.Sort.Plain
import Derived.Shelf.Slices.In.SortNone
section
namespace Go.Proofs
open Go.Proofs.Tryz
open Go.Shelf
def Tryz.lays189_ren : Go.Shelf.Ren := ⟨fun | 189 => 53 | 125 => 104 | 257 => 103 | 128 => 190 | 129 => 191 | 294 => 181 | 295 => 182 | 296 => 183 | 297 => 184 | 298 => 185 | 299 => 186 | 216 => 187 | 300 => 188 | 301 => 189 | 328 => 219 | 329 => 220 | 330 => 221 | 331 => 222 | 332 => 223 | 215 => 212 | 343 => 242 | n => n, fun | 28 => 46 | 3 => 3 | 46 => 176 | 0 => 0 | 51 => 233 | 53 => 178 | 4 => 4 | 183 => 226 | 182 => 225 | 131 => 162 | 5 => 5 | 9 => 9 | 218 => 259 | 222 => 197 | 228 => 273 | 229 => 258 | n => n, fun | n => n⟩
theorem Tryz.lays189 : Go.Proofs.Lays.n189 prog Tryz.lays189_ren := {
 mixed := by kernel_rfl
 f125 := func104.trans (congrArg some kQ)
 f128 := func190.trans (congrArg some kQ)
 f129 := func191.trans (congrArg some kQ)
 f189 := func53.trans (congrArg some kQ)
 f215 := func212.trans (congrArg some kQ)
 f216 := func187.trans (congrArg some kQ)
 f257 := func103.trans (congrArg some kQ)
 f294 := func181.trans (congrArg some kQ)
 f295 := func182.trans (congrArg some kQ)
 f296 := func183.trans (congrArg some kQ)
 f297 := func184.trans (congrArg some kQ)
 f298 := func185.trans (congrArg some kQ)
 f299 := func186.trans (congrArg some kQ)
 f300 := func188.trans (congrArg some kQ)
 f301 := func189.trans (congrArg some kQ)
 f328 := func219.trans (congrArg some kQ)
 f329 := func220.trans (congrArg some kQ)
 f330 := func221.trans (congrArg some kQ)
 f331 := func222.trans (congrArg some kQ)
 f332 := func223.trans (congrArg some kQ)
 f343 := func242.trans (congrArg some kQ)
 t0 := underlying0
 a0 := isAgg0
 z0 := sizeOf0
 v0 := zeroValue0
 t3 := underlying3
 a3 := isAgg3
 z3 := sizeOf3
 v3 := zeroValue3
 t4 := underlying4
 a4 := isAgg4
 z4 := sizeOf4
 v4 := zeroValue4
 t5 := underlying5
 a5 := isAgg5
 z5 := sizeOf5
 v5 := zeroValue5
 t9 := underlying9
 a9 := isAgg9
 z9 := sizeOf9
 v9 := zeroValue9
 t28 := underlying46
 a28 := isAgg46
 z28 := sizeOf46
 v28 := zeroValue46
 t46 := underlying176
 a46 := isAgg176
 z46 := sizeOf176
 v46 := zeroValue176
 t51 := underlying233
 a51 := isAgg233
 z51 := sizeOf233
 v51 := zeroValue233
 t53 := underlying178
 a53 := isAgg178
 z53 := sizeOf178
 v53 := zeroValue178
 t131 := underlying162
 a131 := isAgg162
 z131 := sizeOf162
 v131 := zeroValue162
 t182 := underlying225
 a182 := isAgg225
 z182 := sizeOf225
 v182 := zeroValue225
 t183 := underlying226
 a183 := isAgg226
 z183 := sizeOf226
 v183 := zeroValue226
 t218 := underlying259
 a218 := isAgg259
 z218 := sizeOf259
 v218 := zeroValue259
 t222 := underlying197
 a222 := isAgg197
 z222 := sizeOf197
 v222 := zeroValue197
 t228 := underlying273
 a228 := isAgg273
 z228 := sizeOf273
 v228 := zeroValue273
 t229 := underlying258
 a229 := isAgg258
 z229 := sizeOf258
 v229 := zeroValue258 }
open Go.Sort Go.RowKit in
theorem Tryz.slices_Sort_int (blk off cap : Nat) (zs : List Int) (w : World) (hH : Holds (Value.int .i64) w blk off zs.toArray) (hblk : blk < w.heap.size) (hsz : zs.length < 4611686018427387904) :
 Calls prog 53 #[.slice (some ⟨blk, off, none⟩) zs.length cap] w fun e w' =>
   e = .returned (.tuple #[]) ∧ ∃ n os, w' = grow (putRow (Value.int .i64) (Sort.ahead w n) blk off (zs.mergeSort fun x y => decide (x ≤ y)).toArray) os := Any.slices_Sort_int Tryz.lays189 blk off cap zs w hH hblk hsz
open Go.RowKit Go.Sort in
/-- .. and plain. (LAID: no walk: one application.) -/
theorem Tryz.slices_Sort_int_none (p : Option Addr) (cap : Nat) (w : World) :
 Calls prog 53 #[.slice p 0 cap] w fun e w' => e = .returned (.tuple #[]) ∧ w' = w := Any.slices_Sort_int_none Tryz.lays189 p cap w
end Go.Proofs
end
