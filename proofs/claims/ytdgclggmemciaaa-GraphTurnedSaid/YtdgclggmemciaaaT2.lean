/- GraphTurned. -/
import Derived.Test.YtdgclggmemciaaaT1
namespace Go.Proofs.Ytdgclggmemciaaa
open Go.RowKit
set_option linter.unusedSimpArgs false
set_option linter.unusedVariables false
set_option maxRecDepth 100000 in
set_option maxHeartbeats 1000000 in
theorem law_easy (n a b : Int) (A : Option Addr) (cap : Nat) (L : List (Int × Int)) (w : World) (hL : Pairs w (.slice A L.length cap) L) (h : hugeB n L.length = true ∨ n < 1 ∨ chkF n L ≠ 0) :
    Calls Try.prog 3 #[.int .i64 n, .slice A L.length cap, .agg #[.int .i64 a, .int .i64 b]] w (TrueSaid w) := by
  have HW := Lib.hid (fun W => huge_walk n A L.length cap W)
  have SW := Lib.hid (fun W => sure_walk W)
  have B1 := below_al (Below.refl w.heap.size w) (.cells #[.int .i64 a, .int .i64 b] 23)
  have CK := Lib.hid (check_walk n _ L _ (hL.below B1))
  clear hL
  generalize hugeB n L.length = hb at *
  go_enter Try.func3, Try.ntmps3
  go_wp2_with (fail)
  refine (HW.out _).mono ?_
  rintro x w1 ⟨rfl, rfl⟩
  cases hb
  · by_cases h1 : n < 1
    · clear h
      go_wp2_with (fail)
      refine (SW.out _).mono ?_
      rintro x w2 ⟨rfl, B2⟩
      have B3 := below_trans B1 B2
      go_wp2
      go_ret
      exact ⟨rfl, B3⟩
    · have hc : chkF n L ≠ 0 := by
        rcases h with h | h | h
        · cases h
        · exact absurd h h1
        · exact h
      obtain ⟨k, hk⟩ : ∃ k : Int, errV (chkF n L) = .iface 37 (.int .i64 k) := ⟨_, if_neg hc⟩
      rw [hk] at CK
      clear h hk hc
      go_wp2_with (fail)
      refine CK.out.mono ?_
      rintro x w2 ⟨rfl, B2⟩
      have B3 := below_trans B1 B2
      go_wp2_with (fail)
      refine (SW.out _).mono ?_
      rintro x w4 ⟨rfl, B4⟩
      have B5 := below_trans B3 B4
      go_wp2
      go_ret
      exact ⟨rfl, B5⟩
  · clear h
    go_wp2_with (fail)
    refine (SW.out _).mono ?_
    rintro x w2 ⟨rfl, B2⟩
    have B3 := below_trans B1 B2
    go_wp2
    go_ret
    exact ⟨rfl, B3⟩
end Go.Proofs.Ytdgclggmemciaaa
