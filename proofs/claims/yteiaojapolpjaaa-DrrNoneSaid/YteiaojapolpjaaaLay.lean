/- Contracts of the library's functions, laid at this program (written by lay_text.py). -/
import Derived.Shelf.Spec.SlicesInsertGrow
import Derived.Shelf.Spec.SlicesInsert
import Derived.Shelf.Spec.SearchS
import Derived.Test.YteiaojapolpjaaaProg
import Derived.KernelRfl
namespace Go.Proofs
open Go.Shelf
def Try.laysInsS_ren : Go.Shelf.Ren := ⟨fun | 22 => 34 | 29 => 68 | 30 => 69 | 36 => 95 | 17 => 116 | n => n, fun | 24 => 22 | 9 => 9 | 3 => 3 | 4 => 4 | 0 => 0 | n => n, fun | n => n⟩
theorem Try.laysInsS : Go.Proofs.Lays2.n22 Try.prog Try.laysInsS_ren := {
    mixed := by kernel_rfl,
    f17 := Try.func116.trans (congrArg some (by kernel_rfl)),
    f22 := Try.func34.trans (congrArg some (by kernel_rfl)),
    f29 := Try.func68.trans (congrArg some (by kernel_rfl)),
    f30 := Try.func69.trans (congrArg some (by kernel_rfl)),
    f36 := Try.func95.trans (congrArg some (by kernel_rfl)),
    t0 := Try.underlying0,
    a0 := Try.isAgg0,
    z0 := Try.sizeOf0,
    v0 := Try.zeroValue0,
    t3 := Try.underlying3,
    a3 := Try.isAgg3,
    z3 := Try.sizeOf3,
    v3 := Try.zeroValue3,
    t4 := Try.underlying4,
    a4 := Try.isAgg4,
    z4 := Try.sizeOf4,
    v4 := Try.zeroValue4,
    t9 := Try.underlying9,
    a9 := Try.isAgg9,
    z9 := Try.sizeOf9,
    v9 := Try.zeroValue9,
    t24 := Try.underlying22,
    a24 := Try.isAgg22,
    z24 := Try.sizeOf22,
    v24 := Try.zeroValue22,
    i9 := by kernel_rfl }
def Try.laysInsI_ren : Go.Shelf.Ren := ⟨fun | 21 => 35 | 27 => 70 | 28 => 71 | 35 => 96 | 39 => 117 | n => n, fun | 22 => 23 | 3 => 3 | 4 => 4 | 0 => 0 | n => n, fun | n => n⟩
theorem Try.laysInsI : Go.Proofs.Lays2.n21 Try.prog Try.laysInsI_ren := {
    mixed := by kernel_rfl,
    f21 := Try.func35.trans (congrArg some (by kernel_rfl)),
    f27 := Try.func70.trans (congrArg some (by kernel_rfl)),
    f28 := Try.func71.trans (congrArg some (by kernel_rfl)),
    f35 := Try.func96.trans (congrArg some (by kernel_rfl)),
    f39 := Try.func117.trans (congrArg some (by kernel_rfl)),
    t0 := Try.underlying0,
    a0 := Try.isAgg0,
    z0 := Try.sizeOf0,
    v0 := Try.zeroValue0,
    t3 := Try.underlying3,
    a3 := Try.isAgg3,
    z3 := Try.sizeOf3,
    v3 := Try.zeroValue3,
    t4 := Try.underlying4,
    a4 := Try.isAgg4,
    z4 := Try.sizeOf4,
    v4 := Try.zeroValue4,
    t22 := Try.underlying23,
    a22 := Try.isAgg23,
    z22 := Try.sizeOf23,
    v22 := Try.zeroValue23,
    i3 := by kernel_rfl }
def Try.laysBsS_ren : Go.Shelf.Ren := ⟨fun | 26 => 32 | 33 => 66 | 34 => 67 | 38 => 94 | n => n, fun | 24 => 22 | 9 => 9 | 3 => 3 | 4 => 4 | 40 => 121 | 0 => 0 | n => n, fun | n => n⟩
theorem Try.laysBsS : Go.Proofs.Lays2.n26 Try.prog Try.laysBsS_ren := {
    mixed := by kernel_rfl,
    f26 := Try.func32.trans (congrArg some (by kernel_rfl)),
    f33 := Try.func66.trans (congrArg some (by kernel_rfl)),
    f34 := Try.func67.trans (congrArg some (by kernel_rfl)),
    f38 := Try.func94.trans (congrArg some (by kernel_rfl)),
    t0 := Try.underlying0,
    a0 := Try.isAgg0,
    z0 := Try.sizeOf0,
    v0 := Try.zeroValue0,
    t3 := Try.underlying3,
    a3 := Try.isAgg3,
    z3 := Try.sizeOf3,
    v3 := Try.zeroValue3,
    t4 := Try.underlying4,
    a4 := Try.isAgg4,
    z4 := Try.sizeOf4,
    v4 := Try.zeroValue4,
    t9 := Try.underlying9,
    a9 := Try.isAgg9,
    z9 := Try.sizeOf9,
    v9 := Try.zeroValue9,
    t24 := Try.underlying22,
    a24 := Try.isAgg22,
    z24 := Try.sizeOf22,
    v24 := Try.zeroValue22,
    t40 := Try.underlying121,
    a40 := Try.isAgg121,
    z40 := Try.sizeOf121,
    v40 := Try.zeroValue121 }
end Go.Proofs
