/- Contracts of the library's functions at this program, laid in plain words. -/
import Derived.Shelf.Slices.SearchI
import Derived.Shelf.Slices.Empties
import Derived.Shelf.Spec.SlicesInsert
import Derived.Shelf.Spec.SlicesInsertGrow
import Derived.Test.YtdgclggmemciaaaProg
namespace Go.Proofs.Ytdgclggmemciaaa
open Go.Shelf
def Try.laysBs_ren : Go.Shelf.Ren := ⟨fun | 25 => 19 | 31 => 21 | 32 => 22 | 37 => 25 | n => n, fun | 22 => 32 | 3 => 3 | 4 => 4 | 40 => 31 | 0 => 0 | n => n, fun | n => n⟩
theorem Try.laysBs : Go.Proofs.Lays2.n25 Try.prog Try.laysBs_ren := {
  mixed := by kernel_rfl
  f25 := Try.func19.trans (congrArg some (by kernel_rfl))
  f31 := Try.func21.trans (congrArg some (by kernel_rfl))
  f32 := Try.func22.trans (congrArg some (by kernel_rfl))
  f37 := Try.func25.trans (congrArg some (by kernel_rfl))
  t0 := Try.underlying0
  a0 := Try.isAgg0
  z0 := Try.sizeOf0
  v0 := Try.zeroValue0
  t3 := Try.underlying3
  a3 := Try.isAgg3
  z3 := Try.sizeOf3
  v3 := Try.zeroValue3
  t4 := Try.underlying4
  a4 := Try.isAgg4
  z4 := Try.sizeOf4
  v4 := Try.zeroValue4
  t22 := Try.underlying32
  a22 := Try.isAgg32
  z22 := Try.sizeOf32
  v22 := Try.zeroValue32
  t40 := Try.underlying31
  a40 := Try.isAgg31
  z40 := Try.sizeOf31
  v40 := Try.zeroValue31 }
def Try.laysIns_ren : Go.Shelf.Ren := ⟨fun | 21 => 20 | 27 => 23 | 28 => 24 | 35 => 26 | 39 => 27 | n => n, fun | 22 => 32 | 3 => 3 | 4 => 4 | 0 => 0 | n => n, fun | n => n⟩
theorem Try.laysIns : Go.Proofs.Lays2.n21 Try.prog Try.laysIns_ren := {
  mixed := by kernel_rfl
  f21 := Try.func20.trans (congrArg some (by kernel_rfl))
  f27 := Try.func23.trans (congrArg some (by kernel_rfl))
  f28 := Try.func24.trans (congrArg some (by kernel_rfl))
  f35 := Try.func26.trans (congrArg some (by kernel_rfl))
  f39 := Try.func27.trans (congrArg some (by kernel_rfl))
  t0 := Try.underlying0
  a0 := Try.isAgg0
  z0 := Try.sizeOf0
  v0 := Try.zeroValue0
  t3 := Try.underlying3
  a3 := Try.isAgg3
  z3 := Try.sizeOf3
  v3 := Try.zeroValue3
  t4 := Try.underlying4
  a4 := Try.isAgg4
  z4 := Try.sizeOf4
  v4 := Try.zeroValue4
  t22 := Try.underlying32
  a22 := Try.isAgg32
  z22 := Try.sizeOf32
  v22 := Try.zeroValue32
  i3 := by kernel_rfl }
end Go.Proofs.Ytdgclggmemciaaa
