/- The shelf's contracts at this dump, in plain words (written by the kit's own tools). -/
import Derived.Shelf.Strconv.Itoa0
import Derived.Shelf.Sort.Plain
import Derived.Shelf.Slices.In.SortNone
import Derived.Test.YtonlfkofiljboaaProg
namespace Go.Proofs
open Go.Shelf
def Try.lays189_ren : Go.Shelf.Ren := ⟨fun | 189 => 68 | 125 => 98 | 257 => 97 | 128 => 140 | 129 => 141 | 294 => 131 | 295 => 132 | 296 => 133 | 297 => 134 | 298 => 135 | 299 => 136 | 216 => 137 | 300 => 138 | 301 => 139 | 328 => 155 | 329 => 156 | 330 => 157 | 331 => 158 | 332 => 159 | 215 => 160 | 343 => 166 | n => n, fun | 28 => 38 | 3 => 3 | 46 => 131 | 0 => 0 | 51 => 164 | 53 => 166 | 4 => 4 | 183 => 157 | 182 => 156 | 131 => 161 | 5 => 5 | 9 => 9 | 218 => 174 | 222 => 178 | 228 => 182 | 229 => 183 | n => n, fun | n => n⟩
theorem Try.lays189 : Go.Proofs.Lays.n189 Try.prog Try.lays189_ren := {
  mixed := by kernel_rfl
  f125 := Try.func98.trans (congrArg some (by kernel_rfl))
  f128 := Try.func140.trans (congrArg some (by kernel_rfl))
  f129 := Try.func141.trans (congrArg some (by kernel_rfl))
  f189 := Try.func68.trans (congrArg some (by kernel_rfl))
  f215 := Try.func160.trans (congrArg some (by kernel_rfl))
  f216 := Try.func137.trans (congrArg some (by kernel_rfl))
  f257 := Try.func97.trans (congrArg some (by kernel_rfl))
  f294 := Try.func131.trans (congrArg some (by kernel_rfl))
  f295 := Try.func132.trans (congrArg some (by kernel_rfl))
  f296 := Try.func133.trans (congrArg some (by kernel_rfl))
  f297 := Try.func134.trans (congrArg some (by kernel_rfl))
  f298 := Try.func135.trans (congrArg some (by kernel_rfl))
  f299 := Try.func136.trans (congrArg some (by kernel_rfl))
  f300 := Try.func138.trans (congrArg some (by kernel_rfl))
  f301 := Try.func139.trans (congrArg some (by kernel_rfl))
  f328 := Try.func155.trans (congrArg some (by kernel_rfl))
  f329 := Try.func156.trans (congrArg some (by kernel_rfl))
  f330 := Try.func157.trans (congrArg some (by kernel_rfl))
  f331 := Try.func158.trans (congrArg some (by kernel_rfl))
  f332 := Try.func159.trans (congrArg some (by kernel_rfl))
  f343 := Try.func166.trans (congrArg some (by kernel_rfl))
  t0 := Try.underlying0
  a0 := Try.isAgg0
  z0 := Try.sizeOf0
  v0 := Try.zeroValue0
  t3 := Try.underlying3
  a3 := Try.isAgg3
  z3 := Try.sizeOf3
  v3 := Try.zeroValue3
  t4 := Try.underlying4
  a4 := Try.isAgg4
  z4 := Try.sizeOf4
  v4 := Try.zeroValue4
  t5 := Try.underlying5
  a5 := Try.isAgg5
  z5 := Try.sizeOf5
  v5 := Try.zeroValue5
  t9 := Try.underlying9
  a9 := Try.isAgg9
  z9 := Try.sizeOf9
  v9 := Try.zeroValue9
  t28 := Try.underlying38
  a28 := Try.isAgg38
  z28 := Try.sizeOf38
  v28 := Try.zeroValue38
  t46 := Try.underlying131
  a46 := Try.isAgg131
  z46 := Try.sizeOf131
  v46 := Try.zeroValue131
  t51 := Try.underlying164
  a51 := Try.isAgg164
  z51 := Try.sizeOf164
  v51 := Try.zeroValue164
  t53 := Try.underlying166
  a53 := Try.isAgg166
  z53 := Try.sizeOf166
  v53 := Try.zeroValue166
  t131 := Try.underlying161
  a131 := Try.isAgg161
  z131 := Try.sizeOf161
  v131 := Try.zeroValue161
  t182 := Try.underlying156
  a182 := Try.isAgg156
  z182 := Try.sizeOf156
  v182 := Try.zeroValue156
  t183 := Try.underlying157
  a183 := Try.isAgg157
  z183 := Try.sizeOf157
  v183 := Try.zeroValue157
  t218 := Try.underlying174
  a218 := Try.isAgg174
  z218 := Try.sizeOf174
  v218 := Try.zeroValue174
  t222 := Try.underlying178
  a222 := Try.isAgg178
  z222 := Try.sizeOf178
  v222 := Try.zeroValue178
  t228 := Try.underlying182
  a228 := Try.isAgg182
  z228 := Try.sizeOf182
  v228 := Try.zeroValue182
  t229 := Try.underlying183
  a229 := Try.isAgg183
  z229 := Try.sizeOf183
  v229 := Try.zeroValue183 }
open Go.Sort Go.RowKit in
theorem Try.slices_Sort_int (blk off cap : Nat) (zs : List Int) (w : World) (hH : Holds (Value.int .i64) w blk off zs.toArray) (hblk : blk < w.heap.size) (hsz : zs.length < 4611686018427387904) :
    Calls Try.prog 68 #[.slice (some ⟨blk, off, none⟩) zs.length cap] w fun e w' =>
      e = .returned (.tuple #[]) ∧ ∃ n os, w' = grow (putRow (Value.int .i64) (Sort.ahead w n) blk off (zs.mergeSort fun x y => decide (x ≤ y)).toArray) os := Any.slices_Sort_int Try.lays189 blk off cap zs w hH hblk hsz
open Go.RowKit Go.Sort in
/-- .. and plain. (LAID: no walk: one application.) -/
theorem Try.slices_Sort_int_none (p : Option Addr) (cap : Nat) (w : World) :
    Calls Try.prog 68 #[.slice p 0 cap] w fun e w' => e = .returned (.tuple #[]) ∧ w' = w := Any.slices_Sort_int_none Try.lays189 p cap w
end Go.Proofs
