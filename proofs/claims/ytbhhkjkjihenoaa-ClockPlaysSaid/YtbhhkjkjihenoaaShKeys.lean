/- maps.Keys, slices.Collect and slices.Sorted of integers at this dump, off the shelf (laid in plain words), and what they return of a map of the call's own. Conditions as each states. -/
import Derived.Shelf.SlIterI.Sorted
import Derived.Test.YtbhhkjkjihenoaaRows
import Derived.Test.YtbhhkjkjihenoaaMap
import Derived.Test.YtbhhkjkjihenoaaSortOwn
import Derived.Test.YtbhhkjkjihenoaaShSort
namespace Go.Proofs
open Go.Shelf
set_option linter.unusedVariables false
def Try.keysZ_ren : Go.Shelf.Ren := ⟨fun | 7 => 98 | 10 => 126 | n => n, fun | 23 => 150 | 26 => 3 | 27 => 155 | 28 => 156 | 33 => 105 | n => n, fun | n => n⟩
theorem Try.keysZ : Go.Proofs.SlLaysZI.n7 Try.prog Try.keysZ_ren := {
  mixed := by kernel_rfl
  f7 := ⟨Try.f98.name, by decide, Try.func98.trans (congrArg some (by kernel_rfl))⟩
  f10 := ⟨Try.f126.name, by decide, Try.func126.trans (congrArg some (by kernel_rfl))⟩
  t0 := Try.underlying0
  a0 := Try.isAgg0
  z0 := Try.sizeOf0
  v0 := Try.zeroValue0
  t4 := Try.underlying4
  a4 := Try.isAgg4
  z4 := Try.sizeOf4
  v4 := Try.zeroValue4
  t23 := Try.underlying150
  a23 := Try.isAgg150
  z23 := Try.sizeOf150
  v23 := Try.zeroValue150
  t26 := Try.underlying3
  a26 := Try.isAgg3
  z26 := Try.sizeOf3
  v26 := Try.zeroValue3
  t27 := Try.underlying155
  a27 := Try.isAgg155
  z27 := Try.sizeOf155
  v27 := Try.zeroValue155
  t28 := Try.underlying156
  a28 := Try.isAgg156
  z28 := Try.sizeOf156
  v28 := Try.zeroValue156
  t33 := Try.underlying105
  a33 := Try.isAgg105
  z33 := Try.sizeOf105
  v33 := Try.zeroValue105 }
def Try.sortedZ_ren : Go.Shelf.Ren := ⟨fun | 6 => 97 | 8 => 95 | 9 => 123 | 11 => 124 | n => n, fun | 24 => 100 | 26 => 3 | 28 => 156 | 33 => 105 | n => n, fun | n => n⟩
theorem Try.sortedZ : Go.Proofs.SlLaysZI.n6 Try.prog Try.sortedZ_ren := {
  mixed := by kernel_rfl
  f6 := ⟨Try.f97.name, by decide, Try.func97.trans (congrArg some (by kernel_rfl))⟩
  f8 := ⟨Try.f95.name, by decide, Try.func95.trans (congrArg some (by kernel_rfl))⟩
  f11 := ⟨Try.f124.name, by decide, Try.func124.trans (congrArg some (by kernel_rfl))⟩
  t0 := Try.underlying0
  a0 := Try.isAgg0
  z0 := Try.sizeOf0
  v0 := Try.zeroValue0
  t24 := Try.underlying100
  a24 := Try.isAgg100
  z24 := Try.sizeOf100
  v24 := Try.zeroValue100
  t26 := Try.underlying3
  a26 := Try.isAgg3
  z26 := Try.sizeOf3
  v26 := Try.zeroValue3
  t28 := Try.underlying156
  a28 := Try.isAgg156
  z28 := Try.sizeOf156
  v28 := Try.zeroValue156
  i26 := by kernel_rfl }
open Go.RowKit Go.Maps Go.Sort in
theorem Try.sortsZ (m : Nat) : AnyZI.SortsIn Try.prog Try.sortedZ_ren Fence.wide m :=
  ⟨fun blk off cap ss W hH hblk hsz => callsIn_wide.2 (Try.slices_Sort_int blk off cap ss W hH hblk hsz),
   fun p cap W => callsIn_wide.2 (Try.slices_Sort_int_none p cap W)⟩
end Go.Proofs
