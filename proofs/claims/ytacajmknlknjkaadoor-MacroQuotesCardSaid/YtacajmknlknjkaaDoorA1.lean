/- strings.Builder, strings.Split at this seat. -/
import Derived.Test.YtacajmknlknjkaaDoorStrLay
import Derived.Test.YtacajmknlknjkaaDoorNum
import Derived.Shelf.Strings.SplitShaped
import Derived.Shelf.Strings.BuilderF
namespace Go.Proofs.YtacajmknlknjkaaDoor
open Go.RowKit
open Go.Shelf
theorem Tryd.bWrite : Lays.n166 Tryd.prog Tryd.replAll_ren := { Tryd.replAll with }
theorem Tryd.bExtra : Builder.Extra Tryd.prog Tryd.replAll_ren where
  sizeBuilder := by kernel_rfl
  liesBuilder := by kernel_rfl
  t5 := Tryd.underlying5
  a5 := Tryd.isAgg5
  z5 := Tryd.sizeOf5
  v5 := Tryd.zeroValue5
  infoByte := by kernel_rfl
  cellsByte := by kernel_rfl
  sizeByte := by kernel_rfl
  neB5 := by decide
theorem Tryd.sExtra : Builder.Extra Tryd.prog Tryd.bString_ren where
  sizeBuilder := by kernel_rfl
  liesBuilder := by kernel_rfl
  t5 := Tryd.underlying5
  a5 := Tryd.isAgg5
  z5 := Tryd.sizeOf5
  v5 := Tryd.zeroValue5
  infoByte := by kernel_rfl
  cellsByte := by kernel_rfl
  sizeByte := by kernel_rfl
  neB5 := by decide
/-- A strings.Builder of the call's own at b, holding the bytes l. -/
def Bld (w : World) (B b : Nat) (l : List UInt8) : Prop := Lib.IsBuilderF 53 5 B b (Lib.byteCells l) w
theorem bld_len {B b : Nat} {l : List UInt8} {w : World} (h : Bld w B b l) : Calls Tryd.prog 21 #[.pointer (some ⟨b, 0, none⟩)] w fun e w' => e = .returned (.int .i64 l.length) ∧ w' = w := by
  have := Any.Builder_Len_f Tryd.bLen B b (Lib.byteCells l) w h
  rw [show (Lib.byteCells l).length = l.length by simp [Lib.byteCells]] at this
  exact this
theorem bld_write {B b : Nat} {l : List UInt8} (s : ByteArray) {w : World} (h : Bld w B b l) (hlen : l.length + s.size ≤ 140737488355328) (hBw : B ≤ w.heap.size) :
    Calls Tryd.prog 22 #[.pointer (some ⟨b, 0, none⟩), .string s] w fun e w' => e = .returned (.tuple #[.int .i64 s.size, .nilIface]) ∧ Bld w' B b (l ++ s.data.toList) ∧ Below B w w' := by
  refine (Any.Builder_WriteString_f Tryd.bWrite Tryd.bExtra B b (Lib.byteCells l) s w h (by simpa [Lib.byteCells] using hlen) hBw).mono ?_
  rintro e w' ⟨rfl, h1, h2⟩
  refine ⟨rfl, ?_, h2⟩
  rw [Lib.strCells_eq] at h1
  have e1 : Lib.byteCells l ++ Lib.byteCells s.data.toList = Lib.byteCells (l ++ s.data.toList) := by simp [Lib.byteCells]
  rw [e1] at h1
  exact Or.inr h1
theorem bld_string {B b : Nat} {l : List UInt8} {w : World} (h : Bld w B b l) (hBw : B ≤ w.heap.size) :
    Calls Tryd.prog 23 #[.pointer (some ⟨b, 0, none⟩)] w fun e w' => e = .returned (.string ⟨l.toArray⟩) ∧ Below B w w' := by
  refine (Any.Builder_String_any_f Tryd.bString Tryd.sExtra B b l w h hBw).mono ?_
  rintro e w' ⟨rfl, _, h2⟩
  exact ⟨rfl, h2⟩
theorem bld_new (w : World) : Bld (w.alloc (.cells #[.pointer none, .slice none 0 0] 53)) w.heap.size w.heap.size [] := Lib.IsBuilderF.of (Lib.fresh_isBuilder 53 5 w)
theorem split_dollar (s : ByteArray) (w : World) (m : Int) (hm : w.cell? ⟨1, 0, none⟩ = some (.int .i64 m)) (hs : s.size < 4294967281) :
    Calls Tryd.prog 27 #[.string s, .string ⟨#[36]⟩] w fun e w' =>
      e = .returned (.slice (some ⟨w.heap.size, 0, none⟩) (Lib.countB s ⟨#[36]⟩ + 1) (Lib.countB s ⟨#[36]⟩ + 1)) ∧ w' = w.alloc (.cells ((Lib.splitB ⟨#[36]⟩ 0 (Lib.countB s ⟨#[36]⟩) s).map Value.string).toArray 9) :=
  Any.strings_Split { Tryd.split with } Tryd.split.i9 s ⟨#[36]⟩ m w hs hm (by decide)
end Go.Proofs.YtacajmknlknjkaaDoor
