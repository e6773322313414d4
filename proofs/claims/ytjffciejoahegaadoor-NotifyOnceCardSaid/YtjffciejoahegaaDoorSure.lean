/- What must come whatever the input is, walked. -/
import Derived.Test.YtjffciejoahegaaDoorAdmit
import Derived.Test.YtjffciejoahegaaDoorLaid
namespace Go.Proofs.YtjffciejoahegaaDoor
open Go.RowKit
theorem word4_walk (w : World) (hw : WordsOk w) : Calls Tryd.prog 15 #[.int .i64 4] w fun e w' => e = .returned (.string ⟨#[99, 117, 115, 116, 111, 109]⟩) ∧ w = w' := by
  have c4 := hw.2.2.2.2
  go_enter Tryd.func15, Tryd.ntmps15
  go_wp2
  go_ret
  exact ⟨rfl, rfl⟩
theorem cells10 {w : World} {g : Nat} {t : TypeId} {a b c d e f i j k l : Value} (h : Blk w g t #[a, b, c, d, e, f, i, j, k, l]) :
    (w.cell? ⟨g, 0, none⟩ = some a ∧ w.cell? ⟨g, 1, none⟩ = some b ∧ w.cell? ⟨g, 2, none⟩ = some c ∧ w.cell? ⟨g, 3, none⟩ = some d ∧ w.cell? ⟨g, 4, none⟩ = some e ∧ w.cell? ⟨g, 5, none⟩ = some f ∧ w.cell? ⟨g, 6, none⟩ = some i ∧ w.cell? ⟨g, 7, none⟩ = some j ∧ w.cell? ⟨g, 8, none⟩ = some k ∧ w.cell? ⟨g, 9, none⟩ = some l) ∧
    (w.frozen? ⟨g, 0, none⟩ = false ∧ w.frozen? ⟨g, 1, none⟩ = false ∧ w.frozen? ⟨g, 2, none⟩ = false ∧ w.frozen? ⟨g, 3, none⟩ = false ∧ w.frozen? ⟨g, 4, none⟩ = false ∧ w.frozen? ⟨g, 5, none⟩ = false ∧ w.frozen? ⟨g, 6, none⟩ = false ∧ w.frozen? ⟨g, 7, none⟩ = false ∧ w.frozen? ⟨g, 8, none⟩ = false ∧ w.frozen? ⟨g, 9, none⟩ = false) ∧ g < w.heap.size :=
  ⟨⟨h.cell 0, h.cell 1, h.cell 2, h.cell 3, h.cell 4, h.cell 5, h.cell 6, h.cell 7, h.cell 8, h.cell 9⟩, ⟨h.frozen 0, h.frozen 1, h.frozen 2, h.frozen 3, h.frozen 4, h.frozen 5, h.frozen 6, h.frozen 7, h.frozen 8, h.frozen 9⟩, h.lt⟩
set_option maxHeartbeats 2000000 in
theorem sure_walk (w : World) (hw : WordsOk w) : Calls Tryd.prog 10 #[] w fun e w' => e = .returned (.bool true) ∧ Below w.heap.size w w' := by
  have e1 : admF ⟨0, 2, true, true, false, false, false, false, 4, 0⟩ = 0 := by decide
  have e2 : admF ⟨0, 2, true, true, false, false, false, true, 4, 0⟩ = 6 := by decide
  have a1 := fun w => admit_walk ⟨0, 2, true, true, false, false, false, false, 4, 0⟩ w
  have a2 := fun w => admit_walk ⟨0, 2, true, true, false, false, false, true, 4, 0⟩ w
  rw [e1] at a1; rw [e2] at a2
  unfold Cs.cells at a1 a2
  dsimp only at a1 a2
  have A1 := Lib.hid a1; have A2 := Lib.hid a2
  clear a1 a2 e1 e2
  have q2 := Blk.new1 w (.cells #[.int .i64 0, .int .i64 2, .bool true, .bool true, .bool false, .bool false, .bool false, .bool false, .int .i64 4, .int .i64 0] 24) 24 #[.int .i64 0, .int .i64 2, .bool true, .bool true, .bool false, .bool false, .bool false, .bool true, .int .i64 4, .int .i64 0]
  have w2 := (hw.alloc (.cells #[.int .i64 0, .int .i64 2, .bool true, .bool true, .bool false, .bool false, .bool false, .bool false, .int .i64 4, .int .i64 0] 24)).alloc (.cells #[.int .i64 0, .int .i64 2, .bool true, .bool true, .bool false, .bool false, .bool false, .bool true, .int .i64 4, .int .i64 0] 24)
  have B0 := below_al (below_al (Below.refl w.heap.size w) (.cells #[.int .i64 0, .int .i64 2, .bool true, .bool true, .bool false, .bool false, .bool false, .bool false, .int .i64 4, .int .i64 0] 24)) (.cells #[.int .i64 0, .int .i64 2, .bool true, .bool true, .bool false, .bool false, .bool false, .bool true, .int .i64 4, .int .i64 0] 24)
  have Q2 := Lib.hid q2; have W2 := Lib.hid w2
  clear q2 w2 hw
  go_enter Tryd.func10, Tryd.ntmps10
  go_wp2_with (fail)
  refine (A1.out _).mono ?_
  rintro e w1 ⟨rfl, hb1⟩
  have b2 := Q2.out.below hb1
  have hw1 := W2.out.below hb1
  have B1 := below_trans B0 hb1
  obtain ⟨⟨c0, c1, c2, c3, c4, c5, c6, c7, c8, c9⟩, _, zl⟩ := cells10 b2
  have HW := Lib.hid hw1
  clear hw1 b2 Q2 W2 B0 hb1
  go_wp2_with (fail)
  refine (A2.out _).mono ?_
  rintro e w2 ⟨rfl, hb2⟩
  have hw2 := HW.out.below hb2
  have B2 := below_trans B1 hb2
  clear HW c0 c1 c2 c3 c4 c5 c6 c7 c8 c9 zl B1 hb2
  have HW := Lib.hid hw2; clear hw2
  go_wp2_with (fail)
  refine (word4_walk _ HW.out).mono ?_
  rintro e w3 ⟨rfl, rfl⟩
  go_wp2
  go_ret
  exact ⟨rfl, B2⟩
end Go.Proofs.YtjffciejoahegaaDoor
