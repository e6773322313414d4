/- What must come whatever the input is, walked. -/
import Derived.Test.YtfioigbopagogaaDoorA2
namespace Go.Proofs.YtfioigbopagogaaDoor
open Go.RowKit
set_option linter.unusedVariables false
theorem outF_inj {L M : List Ln} (h : outF L = outF M) : L = M := by
  unfold outF at h
  refine (List.map_inj_right (fun x y hxy => ?_)).1 h
  obtain ⟨a, t⟩ := x
  obtain ⟨b, u⟩ := y
  simp only [Prod.mk.injEq] at hxy
  rw [hxy.1, ba_inj hxy.2]
set_option maxRecDepth 100000 in
set_option maxHeartbeats 1000000 in
theorem sure_walk (w : World) (hm : MaxL w) : Calls Tryd.prog 8 #[] w fun y w' => y = .returned (.bool true) ∧ Below w.heap.size w w' := by
  have LW := Lib.hid (lines_walk ⟨#[97, 32, 59, 120, 10, 35, 32, 98, 10, 99, 92, 10, 100]⟩ w hm (by decide))
  clear hm
  go_enter Tryd.func8, Tryd.ntmps8
  go_wp2_with (fail)
  refine LW.out.mono ?_
  rintro y w1 ⟨⟨v, L, rfl, hL, _, own⟩, B1⟩
  have hs : linesF (⟨#[97, 32, 59, 120, 10, 35, 32, 98, 10, 99, 92, 10, 100]⟩ : ByteArray).data.toList = ⟨[(1, [97]), (3, [99, 100])], 0, 0⟩ := sure_lines
  rw [hs] at hL ⊢
  obtain rfl : L = [⟨1, ⟨#[97]⟩⟩, ⟨3, ⟨#[99, 100]⟩⟩] := outF_inj hL
  have HR := RdL.of_owns own rfl (Nat.le_refl w1.heap.size)
  have BH := Lib.hid B1
  clear LW own hL hs B1
  rcases HR with ⟨_, h0⟩ | ⟨g, cap, rfl, hc, hg, hh⟩
  · cases h0
  obtain ⟨a0, a1⟩ := hh 0 (by decide)
  obtain ⟨b0, b1⟩ := hh 1 (by decide)
  have a0' : w1.cell? ⟨g, 0, none⟩ = some (.int .i64 1) := a0
  have a1' : w1.cell? ⟨g, 1, none⟩ = some (.string ⟨#[97]⟩) := a1
  have b0' : w1.cell? ⟨g, 2, none⟩ = some (.int .i64 3) := b0
  have b1' : w1.cell? ⟨g, 3, none⟩ = some (.string ⟨#[99, 100]⟩) := b1
  clear a0 a1 b0 b1 hh
  dsimp only
  simp only [errE0]
  go_wp2_with (fail)
  go_ret
  exact ⟨by first | rfl | trivial, BH.out⟩
end Go.Proofs.YtfioigbopagogaaDoor
