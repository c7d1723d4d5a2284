/- Own text: the kit's contract of slices.insertionSortCmpFunc laid at this seat (written by the kit's lay-plain). -/
import Derived.Shelf.SlGeneric
import Derived.Ground.SlsfProg
import Derived.Shelf.SlLaysF0
import Derived.Test.YteafilojjdfllaaProg
namespace Go.Proofs
open Go.Shelf
def Try.lays180_ren : Go.Shelf.Ren := ⟨fun | 20 => 180 | n => n, fun | 24 => 68 | 22 => 28 | 3 => 3 | 25 => 135 | 4 => 4 | 0 => 0 | n => n, fun | n => n⟩
theorem Try.lays180 : Go.Proofs.SlLaysF0.n20 Try.prog Try.lays180_ren := {
  mixed := by kernel_rfl
  f20 := ⟨Try.f180.name, by decide, Try.func180.trans (congrArg some (by kernel_rfl))⟩
  t0 := Try.underlying0
  a0 := Try.isAgg0
  z0 := Try.sizeOf0
  v0 := Try.zeroValue0
  t3 := Try.underlying3
  a3 := Try.isAgg3
  z3 := Try.sizeOf3
  v3 := Try.zeroValue3
  t4 := Try.underlying4
  a4 := Try.isAgg4
  z4 := Try.sizeOf4
  v4 := Try.zeroValue4
  t22 := Try.underlying28
  a22 := Try.isAgg28
  z22 := Try.sizeOf28
  v22 := Try.zeroValue28
  t25 := Try.underlying135
  a25 := Try.isAgg135
  z25 := Try.sizeOf135
  v25 := Try.zeroValue135 }
end Go.Proofs
