/- ints, walked. -/
import Derived.Test.YtjffciejoahegaaDoorG3
import Derived.Test.YtjffciejoahegaaDoorSure
namespace Go.Proofs.YtjffciejoahegaaDoor
open Go.RowKit
set_option linter.unusedVariables false
set_option maxRecDepth 100000 in
set_option maxHeartbeats 1000000 in
theorem ints_walk (u v : Value) (L : List Int) (hl : L.length ≤ 65536) (w : World) (hu : RdI w u w.heap.size L) (hv : RdI w v w.heap.size L) :
    Calls Tryd.prog 19 #[u, v] w fun x w' => x = .returned (.bool true) ∧ Below w.heap.size w w' := by
  obtain ⟨A, cap, rfl⟩ := hu.form
  obtain ⟨A2, cap2, rfl⟩ := hv.form
  have HU := Lib.hid hu
  have HV := Lib.hid hv
  clear hu hv
  have en : ((L.length : Int) != (L.length : Int)) = false := by simp
  go_enter Tryd.func19, Tryd.ntmps19
  go_upto_region 4 with (fail)
  go_loopw [5] (fun iv wr => ∃ i : Nat, iv = .int .i64 i ∧ i ≤ L.length ∧ Below w.heap.size w wr) (fun iv _ => L.length - (intOf iv).toNat)
  case atStart => exact ⟨0, rfl, Nat.zero_le _, Below.refl _ _⟩
  case round =>
    obtain ⟨i, rfl, hi, bel⟩ := hrel
    have i0 : (0 : Int) ≤ i := by omega
    by_cases hlt : i < L.length
    · have hlt' : (i : Int) < (L.length : Int) := by omega
      rcases HU.out with ⟨_, _, _, _, hl0⟩ | ⟨g, o, cp, e, hg, hh⟩
      · rw [hl0] at hlt; simp at hlt
      cases e
      rcases HV.out with ⟨_, _, _, _, hl0⟩ | ⟨g2, o2, cp2, e2, hg2, hh2⟩
      · rw [hl0] at hlt; simp at hlt
      cases e2
      have c0 := hh i hlt
      have d0 := hh2 i hlt
      have zg : g < wr.heap.size := Nat.lt_of_lt_of_le hg bel.size
      have zg2 : g2 < wr.heap.size := Nat.lt_of_lt_of_le hg2 bel.size
      replace c0 := bel_cell bel c0
      replace d0 := bel_cell bel d0
      generalize L.getD i 0 = E at *
      have e1 : (E != E) = false := by simp
      have BEL := Lib.hid bel
      clear bel hh hh2
      go_upto_region 6 with (fail)
      go_quiet (fail)
      have B2 := Lib.hid (below_drewN BEL.out nq)
      clear BEL c0 d0 e1 zg zg2
      go_wp2_with (fail)
      go_roundw
      case rel => exact ⟨i + 1, by go_num, by omega, B2.out⟩
      case measure => simp [intOf]; omega
    · obtain rfl : i = L.length := by omega
      have BEL := Lib.hid bel
      clear bel
      go_wp2_with (fail)
      go_ret
      exact ⟨rfl, BEL.out⟩
def sumF (L : List Es) : Nat := (L.map fun e => min e.c.length 1000).sum
theorem sumF_snoc (L : List Es) (e : Es) : sumF (L ++ [e]) = sumF L + min e.c.length 1000 := by simp [sumF]
theorem sumF_le (L : List Es) : sumF L ≤ 1000 * L.length := by
  induction L with
  | nil => simp [sumF]
  | cons e r ih =>
    have : sumF (e :: r) = min e.c.length 1000 + sumF r := by simp [sumF]
    rw [this, List.length_cons]; omega
theorem tot_sum (L : List Es) : totF L ≤ sumF L ∨ 1000 ≤ sumF L := by
  induction L with
  | nil => left; simp [sumF, totF]
  | cons e r ih =>
    have h1 : sumF (e :: r) = min e.c.length 1000 + sumF r := by simp [sumF]
    have h2 : totF (e :: r) = e.c.length + totF r := by simp [totF]
    omega
end Go.Proofs.YtjffciejoahegaaDoor
