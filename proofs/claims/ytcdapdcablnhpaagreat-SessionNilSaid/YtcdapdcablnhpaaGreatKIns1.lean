import Derived.Test.YtcdapdcablnhpaaGreatShelf
import Derived.Test.YtcdapdcablnhpaaGreatKRelk
import Derived.Shelf.Spec.SlicesInsertGrow
namespace Go.Proofs
open Go.Shelf
def Tryz.laysIns_ren : Go.Shelf.Ren := ⟨fun | 22 => 138 | 17 => 232 | 29 => 191 | 30 => 192 | 36 => 220 | n => n, fun | 24 => 26 | 9 => 9 | 3 => 3 | 4 => 4 | 0 => 0 | n => n, fun | n => n⟩
theorem Tryz.laysIns : Go.Proofs.Lays2.n22 Tryz.prog Tryz.laysIns_ren := {
 mixed := by kernel_rfl
 f22 := Tryz.func138.trans (congrArg some (by kernel_rfl))
 f17 := Tryz.func232.trans (congrArg some (by kernel_rfl))
 f29 := Tryz.func191.trans (congrArg some (by kernel_rfl))
 f30 := Tryz.func192.trans (congrArg some (by kernel_rfl))
 f36 := Tryz.func220.trans (congrArg some (by kernel_rfl))
 t0 := Tryz.underlying0
 a0 := Tryz.isAgg0
 z0 := Tryz.sizeOf0
 v0 := Tryz.zeroValue0
 t3 := Tryz.underlying3
 a3 := Tryz.isAgg3
 z3 := Tryz.sizeOf3
 v3 := Tryz.zeroValue3
 t4 := Tryz.underlying4
 a4 := Tryz.isAgg4
 z4 := Tryz.sizeOf4
 v4 := Tryz.zeroValue4
 t9 := Tryz.underlying9
 a9 := Tryz.isAgg9
 z9 := Tryz.sizeOf9
 v9 := Tryz.zeroValue9
 t24 := Tryz.underlying26
 a24 := Tryz.isAgg26
 z24 := Tryz.sizeOf26
 v24 := Tryz.zeroValue26
 i9 := by kernel_rfl }
end Go.Proofs
