/-
  The library's sort at gossip's items, by the shelf's laying. No condition.
-/
import Derived.Shelf.SlSortCmp.WholeK
import Derived.Test.YtdcbjedkddgfkaaDoorProg
namespace Go.Proofs
open Go.Shelf
def Tryd.sortN_ren : Go.Shelf.Ren := ⟨fun | 6 => 57 | 15 => 66 | 14 => 65 | 28 => 79 | 29 => 80 | 20 => 71 | 21 => 72 | 22 => 73 | 23 => 74 | 24 => 75 | 25 => 76 | 26 => 77 | 27 => 78 | 46 => 84 | 47 => 85 | 48 => 86 | 49 => 87 | 50 => 88 | 57 => 92 | n => n, fun | 22 => 62 | 24 => 77 | 25 => 80 | 3 => 3 | 39 => 96 | 0 => 0 | 53 => 112 | 55 => 114 | 4 => 4 | 46 => 106 | 45 => 105 | 50 => 69 | 5 => 5 | 9 => 9 | 66 => 116 | 70 => 120 | 76 => 130 | 77 => 131 | n => n, fun | n => n⟩
theorem Tryd.sortN : Go.Proofs.SlLaysF0.n6 Tryd.prog Tryd.sortN_ren := {
 mixed := by kernel_rfl
 f6 := ⟨ "slices.SortFunc[[]kitbag/gossip.item,kitbag/gossip.item]", by decide, Tryd.func57.trans (congrArg some (by kernel_rfl))⟩
 f14 := ⟨ "slices.pdqsortCmpFunc[kitbag/gossip.item]", by decide, Tryd.func65.trans (congrArg some (by kernel_rfl))⟩
 f15 := Tryd.func66.trans (congrArg some (by kernel_rfl))
 f20 := ⟨ "slices.insertionSortCmpFunc[kitbag/gossip.item]", by decide, Tryd.func71.trans (congrArg some (by kernel_rfl))⟩
 f21 := ⟨ "slices.heapSortCmpFunc[kitbag/gossip.item]", by decide, Tryd.func72.trans (congrArg some (by kernel_rfl))⟩
 f22 := ⟨ "slices.breakPatternsCmpFunc[kitbag/gossip.item]", by decide, Tryd.func73.trans (congrArg some (by kernel_rfl))⟩
 f23 := ⟨ "slices.choosePivotCmpFunc[kitbag/gossip.item]", by decide, Tryd.func74.trans (congrArg some (by kernel_rfl))⟩
 f24 := ⟨ "slices.reverseRangeCmpFunc[kitbag/gossip.item]", by decide, Tryd.func75.trans (congrArg some (by kernel_rfl))⟩
 f25 := ⟨ "slices.partialInsertionSortCmpFunc[kitbag/gossip.item]", by decide, Tryd.func76.trans (congrArg some (by kernel_rfl))⟩
 f26 := ⟨ "slices.partitionEqualCmpFunc[kitbag/gossip.item]", by decide, Tryd.func77.trans (congrArg some (by kernel_rfl))⟩
 f27 := ⟨ "slices.partitionCmpFunc[kitbag/gossip.item]", by decide, Tryd.func78.trans (congrArg some (by kernel_rfl))⟩
 f28 := Tryd.func79.trans (congrArg some (by kernel_rfl))
 f29 := Tryd.func80.trans (congrArg some (by kernel_rfl))
 f46 := ⟨ "slices.siftDownCmpFunc[kitbag/gossip.item]", by decide, Tryd.func84.trans (congrArg some (by kernel_rfl))⟩
 f47 := Tryd.func85.trans (congrArg some (by kernel_rfl))
 f48 := Tryd.func86.trans (congrArg some (by kernel_rfl))
 f49 := ⟨ "slices.medianAdjacentCmpFunc[kitbag/gossip.item]", by decide, Tryd.func87.trans (congrArg some (by kernel_rfl))⟩
 f50 := ⟨ "slices.medianCmpFunc[kitbag/gossip.item]", by decide, Tryd.func88.trans (congrArg some (by kernel_rfl))⟩
 f57 := ⟨ "slices.order2CmpFunc[kitbag/gossip.item]", by decide, Tryd.func92.trans (congrArg some (by kernel_rfl))⟩
 t0 := Tryd.underlying0
 a0 := Tryd.isAgg0
 z0 := Tryd.sizeOf0
 v0 := Tryd.zeroValue0
 t3 := Tryd.underlying3
 a3 := Tryd.isAgg3
 z3 := Tryd.sizeOf3
 v3 := Tryd.zeroValue3
 t4 := Tryd.underlying4
 a4 := Tryd.isAgg4
 z4 := Tryd.sizeOf4
 v4 := Tryd.zeroValue4
 t5 := Tryd.underlying5
 a5 := Tryd.isAgg5
 z5 := Tryd.sizeOf5
 v5 := Tryd.zeroValue5
 t9 := Tryd.underlying9
 a9 := Tryd.isAgg9
 z9 := Tryd.sizeOf9
 v9 := Tryd.zeroValue9
 t22 := Tryd.underlying62
 a22 := Tryd.isAgg62
 z22 := Tryd.sizeOf62
 v22 := Tryd.zeroValue62
 t25 := Tryd.underlying80
 a25 := Tryd.isAgg80
 z25 := Tryd.sizeOf80
 v25 := Tryd.zeroValue80
 t39 := Tryd.underlying96
 a39 := Tryd.isAgg96
 z39 := Tryd.sizeOf96
 v39 := Tryd.zeroValue96
 t45 := Tryd.underlying105
 a45 := Tryd.isAgg105
 z45 := Tryd.sizeOf105
 v45 := Tryd.zeroValue105
 t46 := Tryd.underlying106
 a46 := Tryd.isAgg106
 z46 := Tryd.sizeOf106
 v46 := Tryd.zeroValue106
 t50 := Tryd.underlying69
 a50 := Tryd.isAgg69
 z50 := Tryd.sizeOf69
 v50 := Tryd.zeroValue69
 t53 := Tryd.underlying112
 a53 := Tryd.isAgg112
 z53 := Tryd.sizeOf112
 v53 := Tryd.zeroValue112
 t55 := Tryd.underlying114
 a55 := Tryd.isAgg114
 z55 := Tryd.sizeOf114
 v55 := Tryd.zeroValue114
 t66 := Tryd.underlying116
 a66 := Tryd.isAgg116
 z66 := Tryd.sizeOf116
 v66 := Tryd.zeroValue116
 t70 := Tryd.underlying120
 a70 := Tryd.isAgg120
 z70 := Tryd.sizeOf120
 v70 := Tryd.zeroValue120
 t76 := Tryd.underlying130
 a76 := Tryd.isAgg130
 z76 := Tryd.sizeOf130
 v76 := Tryd.zeroValue130
 t77 := Tryd.underlying131
 a77 := Tryd.isAgg131
 z77 := Tryd.sizeOf131
 v77 := Tryd.zeroValue131 }
end Go.Proofs
