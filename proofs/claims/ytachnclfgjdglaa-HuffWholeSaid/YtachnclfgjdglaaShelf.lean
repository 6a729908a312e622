/- The shelf at this program, in plain words: the insertion sort by a function at structs, slices.Grow at structs and at whole numbers. No conditions. -/
import Derived.Shelf.SlSortCmp.InsertionK
import Derived.Shelf.Spec.SlicesGrow
import Derived.Test.YtachnclfgjdglaaProg
namespace Go.Proofs
open Go.Shelf
def Try.ins48_ren : Ren := ⟨fun | 20 => 48 | n => n, fun | 0 => 0 | 3 => 3 | 4 => 4 | 22 => 50 | 24 => 52 | 25 => 65 | n => n, fun | n => n⟩
theorem Try.ins48 : SlLaysF0.n20 Try.prog Try.ins48_ren := {
  mixed := by kernel_rfl
  f20 := ⟨"slices.insertionSortCmpFunc[rubricator/huff.coin]", of_decide_eq_true (by kernel_rfl), Try.func48.trans (congrArg some (by kernel_rfl))⟩
  t0 := Try.underlying0
  a0 := Try.isAgg0
  z0 := Try.sizeOf0
  v0 := Try.zeroValue0
  t3 := Try.underlying3
  a3 := Try.isAgg3
  z3 := Try.sizeOf3
  v3 := Try.zeroValue3
  t4 := Try.underlying4
  a4 := Try.isAgg4
  z4 := Try.sizeOf4
  v4 := Try.zeroValue4
  t22 := Try.underlying50
  a22 := Try.isAgg50
  z22 := Try.sizeOf50
  v22 := Try.zeroValue50
  t25 := Try.underlying65
  a25 := Try.isAgg65
  z25 := Try.sizeOf65
  v25 := Try.zeroValue65 }
def Try.grow44_ren : Ren := ⟨fun | 4 => 44 | n => n, fun | 0 => 0 | 3 => 3 | 4 => 4 | 9 => 9 | 20 => 20 | 22 => 50 | 25 => 52 | n => n, fun | n => n⟩
theorem Try.grow44 : Lays8.n4 Try.prog Try.grow44_ren := {
  mixed := by kernel_rfl
  f4 := ⟨"slices.Grow[[]rubricator/huff.coin,rubricator/huff.coin]", of_decide_eq_true (by kernel_rfl), Try.func44.trans (congrArg some (by kernel_rfl))⟩
  t0 := Try.underlying0
  a0 := Try.isAgg0
  z0 := Try.sizeOf0
  v0 := Try.zeroValue0
  t3 := Try.underlying3
  a3 := Try.isAgg3
  z3 := Try.sizeOf3
  v3 := Try.zeroValue3
  t4 := Try.underlying4
  a4 := Try.isAgg4
  z4 := Try.sizeOf4
  v4 := Try.zeroValue4
  t9 := Try.underlying9
  a9 := Try.isAgg9
  z9 := Try.sizeOf9
  v9 := Try.zeroValue9
  t20 := Try.underlying20
  a20 := Try.isAgg20
  z20 := Try.sizeOf20
  v20 := Try.zeroValue20
  t22 := Try.underlying50
  a22 := Try.isAgg50
  z22 := Try.sizeOf50
  v22 := Try.zeroValue50 }
def Try.grow47_ren : Ren := ⟨fun | 4 => 47 | n => n, fun | 0 => 0 | 3 => 3 | 4 => 4 | 9 => 9 | 20 => 20 | 22 => 22 | 25 => 3 | n => n, fun | n => n⟩
theorem Try.grow47 : Lays8.n4 Try.prog Try.grow47_ren := {
  mixed := by kernel_rfl
  f4 := ⟨"slices.Grow[[]int,int]", of_decide_eq_true (by kernel_rfl), Try.func47.trans (congrArg some (by kernel_rfl))⟩
  t0 := Try.underlying0
  a0 := Try.isAgg0
  z0 := Try.sizeOf0
  v0 := Try.zeroValue0
  t3 := Try.underlying3
  a3 := Try.isAgg3
  z3 := Try.sizeOf3
  v3 := Try.zeroValue3
  t4 := Try.underlying4
  a4 := Try.isAgg4
  z4 := Try.sizeOf4
  v4 := Try.zeroValue4
  t9 := Try.underlying9
  a9 := Try.isAgg9
  z9 := Try.sizeOf9
  v9 := Try.zeroValue9
  t20 := Try.underlying20
  a20 := Try.isAgg20
  z20 := Try.sizeOf20
  v20 := Try.zeroValue20
  t22 := Try.underlying22
  a22 := Try.isAgg22
  z22 := Try.sizeOf22
  v22 := Try.zeroValue22 }
end Go.Proofs
