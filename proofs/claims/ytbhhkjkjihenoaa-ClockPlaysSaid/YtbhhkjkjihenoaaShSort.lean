/- Contracts of Go's library at this dump, laid by the shelf in its plain mode (lay-shelf.mjs, lay-plain.mjs), its numbers turned to marks by shelfmark.py. Conditions as each states. -/
import Derived.Shelf.Small.Bits
import Derived.Shelf.Small.Wraps
import Derived.Shelf.Strconv.Itoa0
import Derived.Shelf.Sort.Plain
import Derived.Shelf.Slices.Turned
import Derived.Ground.Names2Prog
import Derived.Shelf.Slices.SearchI
import Derived.Shelf.Slices.In.SortNone
import Derived.Ground.SlgnProg
import Derived.Shelf.SlicesE.Clone
import Derived.Test.YtbhhkjkjihenoaaProg
namespace Go.Proofs
open Go.Shelf
set_option linter.unusedVariables false
def Try.lays189_ren : Go.Shelf.Ren := ⟨fun | 189 => 123 | 125 => 154 | 257 => 153 | 128 => 166 | 129 => 188 | 294 => 179 | 295 => 180 | 296 => 181 | 297 => 182 | 298 => 183 | 299 => 184 | 216 => 185 | 300 => 186 | 301 => 187 | 328 => 194 | 329 => 195 | 330 => 196 | 331 => 197 | 332 => 198 | 215 => 199 | 343 => 213 | n => n, fun | 28 => 100 | 3 => 3 | 46 => 202 | 0 => 0 | 51 => 28 | 53 => 211 | 4 => 4 | 183 => 220 | 182 => 219 | 131 => 37 | 5 => 5 | 9 => 9 | 218 => 228 | 222 => 214 | 228 => 246 | 229 => 247 | n => n, fun | n => n⟩
theorem Try.lays189 : Go.Proofs.Lays.n189 Try.prog Try.lays189_ren := {
  mixed := by kernel_rfl
  f125 := Try.func154.trans (congrArg some (by kernel_rfl))
  f128 := Try.func166.trans (congrArg some (by kernel_rfl))
  f129 := Try.func188.trans (congrArg some (by kernel_rfl))
  f189 := Try.func123.trans (congrArg some (by kernel_rfl))
  f215 := Try.func199.trans (congrArg some (by kernel_rfl))
  f216 := Try.func185.trans (congrArg some (by kernel_rfl))
  f257 := Try.func153.trans (congrArg some (by kernel_rfl))
  f294 := Try.func179.trans (congrArg some (by kernel_rfl))
  f295 := Try.func180.trans (congrArg some (by kernel_rfl))
  f296 := Try.func181.trans (congrArg some (by kernel_rfl))
  f297 := Try.func182.trans (congrArg some (by kernel_rfl))
  f298 := Try.func183.trans (congrArg some (by kernel_rfl))
  f299 := Try.func184.trans (congrArg some (by kernel_rfl))
  f300 := Try.func186.trans (congrArg some (by kernel_rfl))
  f301 := Try.func187.trans (congrArg some (by kernel_rfl))
  f328 := Try.func194.trans (congrArg some (by kernel_rfl))
  f329 := Try.func195.trans (congrArg some (by kernel_rfl))
  f330 := Try.func196.trans (congrArg some (by kernel_rfl))
  f331 := Try.func197.trans (congrArg some (by kernel_rfl))
  f332 := Try.func198.trans (congrArg some (by kernel_rfl))
  f343 := Try.func213.trans (congrArg some (by kernel_rfl))
  t0 := Try.underlying0
  a0 := Try.isAgg0
  z0 := Try.sizeOf0
  v0 := Try.zeroValue0
  t3 := Try.underlying3
  a3 := Try.isAgg3
  z3 := Try.sizeOf3
  v3 := Try.zeroValue3
  t4 := Try.underlying4
  a4 := Try.isAgg4
  z4 := Try.sizeOf4
  v4 := Try.zeroValue4
  t5 := Try.underlying5
  a5 := Try.isAgg5
  z5 := Try.sizeOf5
  v5 := Try.zeroValue5
  t9 := Try.underlying9
  a9 := Try.isAgg9
  z9 := Try.sizeOf9
  v9 := Try.zeroValue9
  t28 := Try.underlying100
  a28 := Try.isAgg100
  z28 := Try.sizeOf100
  v28 := Try.zeroValue100
  t46 := Try.underlying202
  a46 := Try.isAgg202
  z46 := Try.sizeOf202
  v46 := Try.zeroValue202
  t51 := Try.underlying28
  a51 := Try.isAgg28
  z51 := Try.sizeOf28
  v51 := Try.zeroValue28
  t53 := Try.underlying211
  a53 := Try.isAgg211
  z53 := Try.sizeOf211
  v53 := Try.zeroValue211
  t131 := Try.underlying37
  a131 := Try.isAgg37
  z131 := Try.sizeOf37
  v131 := Try.zeroValue37
  t182 := Try.underlying219
  a182 := Try.isAgg219
  z182 := Try.sizeOf219
  v182 := Try.zeroValue219
  t183 := Try.underlying220
  a183 := Try.isAgg220
  z183 := Try.sizeOf220
  v183 := Try.zeroValue220
  t218 := Try.underlying228
  a218 := Try.isAgg228
  z218 := Try.sizeOf228
  v218 := Try.zeroValue228
  t222 := Try.underlying214
  a222 := Try.isAgg214
  z222 := Try.sizeOf214
  v222 := Try.zeroValue214
  t228 := Try.underlying246
  a228 := Try.isAgg246
  z228 := Try.sizeOf246
  v228 := Try.zeroValue246
  t229 := Try.underlying247
  a229 := Try.isAgg247
  z229 := Try.sizeOf247
  v229 := Try.zeroValue247 }
open Go.Sort Go.RowKit in
theorem Try.slices_Sort_int (blk off cap : Nat) (zs : List Int) (w : World) (hH : Holds (Value.int .i64) w blk off zs.toArray) (hblk : blk < w.heap.size) (hsz : zs.length < 4611686018427387904) :
    Calls Try.prog 123 #[.slice (some ⟨blk, off, none⟩) zs.length cap] w fun e w' =>
      e = .returned (.tuple #[]) ∧ ∃ n os, w' = grow (putRow (Value.int .i64) (Sort.ahead w n) blk off (zs.mergeSort fun x y => decide (x ≤ y)).toArray) os := Any.slices_Sort_int Try.lays189 blk off cap zs w hH hblk hsz
def Try.lays114_ren : Go.Shelf.Ren := ⟨fun | 114 => 94 | n => n, fun | 28 => 100 | 3 => 3 | 4 => 4 | 9 => 9 | 20 => 20 | 0 => 0 | n => n, fun | n => n⟩
theorem Try.lays114 : Go.Proofs.Lays.n114 Try.prog Try.lays114_ren := {
  mixed := by kernel_rfl
  f114 := Try.func94.trans (congrArg some (by kernel_rfl))
  t0 := Try.underlying0
  a0 := Try.isAgg0
  z0 := Try.sizeOf0
  v0 := Try.zeroValue0
  t3 := Try.underlying3
  a3 := Try.isAgg3
  z3 := Try.sizeOf3
  v3 := Try.zeroValue3
  t4 := Try.underlying4
  a4 := Try.isAgg4
  z4 := Try.sizeOf4
  v4 := Try.zeroValue4
  t9 := Try.underlying9
  a9 := Try.isAgg9
  z9 := Try.sizeOf9
  v9 := Try.zeroValue9
  t20 := Try.underlying20
  a20 := Try.isAgg20
  z20 := Try.sizeOf20
  v20 := Try.zeroValue20
  t28 := Try.underlying100
  a28 := Try.isAgg100
  z28 := Try.sizeOf100
  v28 := Try.zeroValue100 }
open Go.Lib in
theorem Try.slices_Min_int (b off n c : Nat) (zs : List Int) (w : World) (hn : 0 < n) (hz : n ≤ zs.length) (hbig : n ≤ 9223372036854775807) (hc : ∀ j, j < zs.length → w.cell? ⟨b, off + j, none⟩ = some (.int .i64 (zs.getD j 0))) :
    Calls Try.prog 94 #[.slice (some ⟨b, off, none⟩) n c] w fun e w' => e = .returned (.int .i64 (Lib.minOf (zs.take n))) ∧ w' = w := Any.slices_Min_int Try.lays114 b off n c zs w hn hz hbig hc
theorem Try.slices_Sort_int_none (p : Option Addr) (cap : Nat) (w : World) :
    Calls Try.prog 123 #[.slice p 0 cap] w fun e w' => e = .returned (.tuple #[]) ∧ w' = w := Any.slices_Sort_int_none Try.lays189 p cap w
end Go.Proofs
