/- Contracts of the library's functions at this program, laid in plain words. -/
import Derived.Shelf.Slices.SearchI
import Derived.Shelf.Slices.Empties
import Derived.Shelf.Spec.SlicesInsert
import Derived.Shelf.Spec.SlicesInsertGrow
import Derived.Test.YtdgclggmemciaaaDoorProg
namespace Go.Proofs.YtdgclggmemciaaaDoor
open Go.Shelf
def Tryd.laysBs_ren : Go.Shelf.Ren := ⟨fun | 25 => 33 | 31 => 39 | 32 => 40 | 37 => 43 | n => n, fun | 22 => 25 | 3 => 3 | 4 => 4 | 40 => 41 | 0 => 0 | n => n, fun | n => n⟩
theorem Tryd.laysBs : Go.Proofs.Lays2.n25 Tryd.prog Tryd.laysBs_ren := {
  mixed := by kernel_rfl
  f25 := Tryd.func33.trans (congrArg some (by kernel_rfl))
  f31 := Tryd.func39.trans (congrArg some (by kernel_rfl))
  f32 := Tryd.func40.trans (congrArg some (by kernel_rfl))
  f37 := Tryd.func43.trans (congrArg some (by kernel_rfl))
  t0 := Tryd.underlying0
  a0 := Tryd.isAgg0
  z0 := Tryd.sizeOf0
  v0 := Tryd.zeroValue0
  t3 := Tryd.underlying3
  a3 := Tryd.isAgg3
  z3 := Tryd.sizeOf3
  v3 := Tryd.zeroValue3
  t4 := Tryd.underlying4
  a4 := Tryd.isAgg4
  z4 := Tryd.sizeOf4
  v4 := Tryd.zeroValue4
  t22 := Tryd.underlying25
  a22 := Tryd.isAgg25
  z22 := Tryd.sizeOf25
  v22 := Tryd.zeroValue25
  t40 := Tryd.underlying41
  a40 := Tryd.isAgg41
  z40 := Tryd.sizeOf41
  v40 := Tryd.zeroValue41 }
def Tryd.laysIns_ren : Go.Shelf.Ren := ⟨fun | 21 => 34 | 27 => 41 | 28 => 42 | 35 => 44 | 39 => 45 | n => n, fun | 22 => 25 | 3 => 3 | 4 => 4 | 0 => 0 | n => n, fun | n => n⟩
theorem Tryd.laysIns : Go.Proofs.Lays2.n21 Tryd.prog Tryd.laysIns_ren := {
  mixed := by kernel_rfl
  f21 := Tryd.func34.trans (congrArg some (by kernel_rfl))
  f27 := Tryd.func41.trans (congrArg some (by kernel_rfl))
  f28 := Tryd.func42.trans (congrArg some (by kernel_rfl))
  f35 := Tryd.func44.trans (congrArg some (by kernel_rfl))
  f39 := Tryd.func45.trans (congrArg some (by kernel_rfl))
  t0 := Tryd.underlying0
  a0 := Tryd.isAgg0
  z0 := Tryd.sizeOf0
  v0 := Tryd.zeroValue0
  t3 := Tryd.underlying3
  a3 := Tryd.isAgg3
  z3 := Tryd.sizeOf3
  v3 := Tryd.zeroValue3
  t4 := Tryd.underlying4
  a4 := Tryd.isAgg4
  z4 := Tryd.sizeOf4
  v4 := Tryd.zeroValue4
  t22 := Tryd.underlying25
  a22 := Tryd.isAgg25
  z22 := Tryd.sizeOf25
  v22 := Tryd.zeroValue25
  i3 := by kernel_rfl }
end Go.Proofs.YtdgclggmemciaaaDoor
