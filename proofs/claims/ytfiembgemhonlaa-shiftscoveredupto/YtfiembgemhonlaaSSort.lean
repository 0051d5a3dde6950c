/- The library's sort of numbers at this program: the kit's contract, laid by the kit's own tool. -/
import Derived.Shelf.Sort.Plain
import Derived.Shelf.Slices.In.SortNone
import Derived.Test.YtfiembgemhonlaaProg
namespace Go.Proofs
open Go.Shelf
def Try.lays189_ren : Go.Shelf.Ren := ⟨fun | 189 => 144 | 125 => 224 | 257 => 223 | 128 => 278 | 129 => 279 | 294 => 269 | 295 => 270 | 296 => 271 | 297 => 272 | 298 => 273 | 299 => 274 | 216 => 275 | 300 => 276 | 301 => 277 | 328 => 319 | 329 => 320 | 330 => 321 | 331 => 322 | 332 => 323 | 215 => 210 | 343 => 349 | n => n, fun | 28 => 78 | 3 => 3 | 46 => 277 | 0 => 0 | 51 => 336 | 53 => 319 | 4 => 4 | 183 => 329 | 182 => 328 | 131 => 127 | 5 => 5 | 9 => 9 | 218 => 369 | 222 => 373 | 228 => 391 | 229 => 392 | n => n, fun | n => n⟩
theorem Try.lays189 : Go.Proofs.Lays.n189 Try.prog Try.lays189_ren := {
  mixed := by kernel_rfl
  f125 := Try.func224.trans (congrArg some (by kernel_rfl))
  f128 := Try.func278.trans (congrArg some (by kernel_rfl))
  f129 := Try.func279.trans (congrArg some (by kernel_rfl))
  f189 := Try.func144.trans (congrArg some (by kernel_rfl))
  f215 := Try.func210.trans (congrArg some (by kernel_rfl))
  f216 := Try.func275.trans (congrArg some (by kernel_rfl))
  f257 := Try.func223.trans (congrArg some (by kernel_rfl))
  f294 := Try.func269.trans (congrArg some (by kernel_rfl))
  f295 := Try.func270.trans (congrArg some (by kernel_rfl))
  f296 := Try.func271.trans (congrArg some (by kernel_rfl))
  f297 := Try.func272.trans (congrArg some (by kernel_rfl))
  f298 := Try.func273.trans (congrArg some (by kernel_rfl))
  f299 := Try.func274.trans (congrArg some (by kernel_rfl))
  f300 := Try.func276.trans (congrArg some (by kernel_rfl))
  f301 := Try.func277.trans (congrArg some (by kernel_rfl))
  f328 := Try.func319.trans (congrArg some (by kernel_rfl))
  f329 := Try.func320.trans (congrArg some (by kernel_rfl))
  f330 := Try.func321.trans (congrArg some (by kernel_rfl))
  f331 := Try.func322.trans (congrArg some (by kernel_rfl))
  f332 := Try.func323.trans (congrArg some (by kernel_rfl))
  f343 := Try.func349.trans (congrArg some (by kernel_rfl))
  t0 := Try.underlying0
  a0 := Try.isAgg0
  z0 := Try.sizeOf0
  v0 := Try.zeroValue0
  t3 := Try.underlying3
  a3 := Try.isAgg3
  z3 := Try.sizeOf3
  v3 := Try.zeroValue3
  t4 := Try.underlying4
  a4 := Try.isAgg4
  z4 := Try.sizeOf4
  v4 := Try.zeroValue4
  t5 := Try.underlying5
  a5 := Try.isAgg5
  z5 := Try.sizeOf5
  v5 := Try.zeroValue5
  t9 := Try.underlying9
  a9 := Try.isAgg9
  z9 := Try.sizeOf9
  v9 := Try.zeroValue9
  t28 := Try.underlying78
  a28 := Try.isAgg78
  z28 := Try.sizeOf78
  v28 := Try.zeroValue78
  t46 := Try.underlying277
  a46 := Try.isAgg277
  z46 := Try.sizeOf277
  v46 := Try.zeroValue277
  t51 := Try.underlying336
  a51 := Try.isAgg336
  z51 := Try.sizeOf336
  v51 := Try.zeroValue336
  t53 := Try.underlying319
  a53 := Try.isAgg319
  z53 := Try.sizeOf319
  v53 := Try.zeroValue319
  t131 := Try.underlying127
  a131 := Try.isAgg127
  z131 := Try.sizeOf127
  v131 := Try.zeroValue127
  t182 := Try.underlying328
  a182 := Try.isAgg328
  z182 := Try.sizeOf328
  v182 := Try.zeroValue328
  t183 := Try.underlying329
  a183 := Try.isAgg329
  z183 := Try.sizeOf329
  v183 := Try.zeroValue329
  t218 := Try.underlying369
  a218 := Try.isAgg369
  z218 := Try.sizeOf369
  v218 := Try.zeroValue369
  t222 := Try.underlying373
  a222 := Try.isAgg373
  z222 := Try.sizeOf373
  v222 := Try.zeroValue373
  t228 := Try.underlying391
  a228 := Try.isAgg391
  z228 := Try.sizeOf391
  v228 := Try.zeroValue391
  t229 := Try.underlying392
  a229 := Try.isAgg392
  z229 := Try.sizeOf392
  v229 := Try.zeroValue392 }
open Go.Sort Go.RowKit in
theorem Try.slices_Sort_int (blk off cap : Nat) (zs : List Int) (w : World) (hH : Holds (Value.int .i64) w blk off zs.toArray) (hblk : blk < w.heap.size) (hsz : zs.length < 4611686018427387904) :
    Calls Try.prog 144 #[.slice (some ⟨blk, off, none⟩) zs.length cap] w fun e w' =>
      e = .returned (.tuple #[]) ∧ ∃ n os, w' = grow (putRow (Value.int .i64) (Sort.ahead w n) blk off (zs.mergeSort fun x y => decide (x ≤ y)).toArray) os := Any.slices_Sort_int Try.lays189 blk off cap zs w hH hblk hsz
open Go.RowKit Go.Sort in
/-- .. and plain. (LAID: no walk: one application.) -/
theorem Try.slices_Sort_int_none (p : Option Addr) (cap : Nat) (w : World) :
    Calls Try.prog 144 #[.slice p 0 cap] w fun e w' => e = .returned (.tuple #[]) ∧ w' = w := Any.slices_Sort_int_none Try.lays189 p cap w
end Go.Proofs
