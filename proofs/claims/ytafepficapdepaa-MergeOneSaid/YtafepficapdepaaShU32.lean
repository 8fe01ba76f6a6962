/- slices.Compact and slices.Equal of numbers of 32 bits at this dump, off the shelf's contracts for elements of one cell (laid in plain words). Conditions as each states. -/
import Derived.Shelf.SlicesE.Compact
import Derived.Shelf.SlicesE.Equal
import Derived.Test.YtafepficapdepaaRows
namespace Go.Proofs
open Go.Shelf
set_option linter.unusedVariables false
def Try.compactU_ren : Go.Shelf.Ren := ⟨fun | 43 => 151 | n => n, fun | 22 => 67 | 23 => 22 | n => n, fun | n => n⟩
theorem Try.compactU : Go.Proofs.SlLaysE.n43 Try.prog Try.compactU_ren := {
  mixed := by kernel_rfl
  f43 := ⟨Try.f151.name, by decide, Try.func151.trans (congrArg some (by kernel_rfl))⟩
  t0 := Try.underlying0
  a0 := Try.isAgg0
  z0 := Try.sizeOf0
  v0 := Try.zeroValue0
  t3 := Try.underlying3
  a3 := Try.isAgg3
  z3 := Try.sizeOf3
  v3 := Try.zeroValue3
  t4 := Try.underlying4
  a4 := Try.isAgg4
  z4 := Try.sizeOf4
  v4 := Try.zeroValue4
  t22 := Try.underlying67
  a22 := Try.isAgg67
  z22 := Try.sizeOf67
  v22 := Try.zeroValue67
  a23 := Try.isAgg22
  z23 := Try.sizeOf22 }
def Try.equalU_ren : Go.Shelf.Ren := ⟨fun | 33 => 159 | n => n, fun | 22 => 67 | 23 => 22 | n => n, fun | n => n⟩
theorem Try.equalU : Go.Proofs.SlLaysE.n33 Try.prog Try.equalU_ren := {
  mixed := by kernel_rfl
  f33 := ⟨Try.f159.name, by decide, Try.func159.trans (congrArg some (by kernel_rfl))⟩
  t0 := Try.underlying0
  a0 := Try.isAgg0
  z0 := Try.sizeOf0
  v0 := Try.zeroValue0
  t3 := Try.underlying3
  a3 := Try.isAgg3
  z3 := Try.sizeOf3
  v3 := Try.zeroValue3
  t4 := Try.underlying4
  a4 := Try.isAgg4
  z4 := Try.sizeOf4
  v4 := Try.zeroValue4
  t22 := Try.underlying67
  a22 := Try.isAgg67
  z22 := Try.sizeOf67
  v22 := Try.zeroValue67
  a23 := Try.isAgg22
  z23 := Try.sizeOf22 }
end Go.Proofs
