/- Lists compared. -/
import Derived.Test.YtfbbkeekpkbjhaaDoorD2
namespace Go.Proofs.YtfbbkeekpkbjhaaDoor
open Go.RowKit
set_option maxRecDepth 100000 in
set_option maxHeartbeats 1000000 in
theorem same_walk (u v : Value) (L : List Ev) (w : World) (hu : RdE w u L) (hv : RdE w v L) (hl : L.length ≤ 65536) :
    Calls Tryd.prog 18 #[u, v] w fun x w' => x = .returned (.bool true) ∧ Below w.heap.size w w' := by
  obtain ⟨A, cap, rfl, _, _, _, hh⟩ := hu.form
  obtain ⟨A2, cap2, rfl, _, _, _, hh2⟩ := hv.form
  have HH := Lib.hid hh
  have HH2 := Lib.hid hh2
  clear hh hh2 hu hv
  have en : ((L.length : Int) != (L.length : Int)) = false := by simp
  go_enter Tryd.func18, Tryd.ntmps18
  go_upto_region 4 with (fail)
  go_loopw [5] (fun iv wr => ∃ i : Nat, iv = .int .i64 i ∧ i ≤ L.length ∧ Below w.heap.size w wr) (fun iv _ => L.length - (intOf iv).toNat)
  case atStart => exact ⟨0, rfl, Nat.zero_le _, Below.refl _ _⟩
  case round =>
    obtain ⟨i, rfl, hi, bel⟩ := hrel
    have i0 : (0 : Int) ≤ i := by omega
    by_cases hlt : i < L.length
    · obtain ⟨g, o, rfl, hg, c0, c1, c2⟩ := HH.out i hlt
      obtain ⟨g2, o2, rfl, hg2, d0, d1, d2⟩ := HH2.out i hlt
      have hlt' : (i : Int) < (L.length : Int) := by omega
      have zg : g < wr.heap.size := Nat.lt_of_lt_of_le hg bel.size
      have zg2 : g2 < wr.heap.size := Nat.lt_of_lt_of_le hg2 bel.size
      generalize L.getD i ⟨0, 0, 0⟩ = E at *
      replace c0 := (bel.cell (p := ⟨g, o + i * 3, none⟩) hg).trans c0
      replace c1 := (bel.cell (p := ⟨g, o + i * 3 + 1, none⟩) hg).trans c1
      replace c2 := (bel.cell (p := ⟨g, o + i * 3 + 2, none⟩) hg).trans c2
      replace d0 := (bel.cell (p := ⟨g2, o2 + i * 3, none⟩) hg2).trans d0
      replace d1 := (bel.cell (p := ⟨g2, o2 + i * 3 + 1, none⟩) hg2).trans d1
      replace d2 := (bel.cell (p := ⟨g2, o2 + i * 3 + 2, none⟩) hg2).trans d2
      have e1 : (E.t == E.t) = true := by simp
      have e2 : (E.k == E.k) = true := by simp
      have e3 : (E.d == E.d) = true := by simp
      have BEL := Lib.hid bel
      clear bel HH HH2
      go_upto_region 6 with (fail)
      go_quiet (fail)
      have B2 := Lib.hid (below_drewN BEL.out nq)
      clear BEL c0 c1 c2 d0 d1 d2 e1 e2 e3 zg zg2
      go_wp2_with (fail)
      go_roundw
      case rel => exact ⟨i + 1, by go_num, by omega, B2.out⟩
      case measure => simp [intOf]; omega
    · obtain rfl : i = L.length := by omega
      have BEL := Lib.hid bel
      clear bel
      go_wp2_with (fail)
      go_ret
      exact ⟨rfl, BEL.out⟩
end Go.Proofs.YtfbbkeekpkbjhaaDoor
