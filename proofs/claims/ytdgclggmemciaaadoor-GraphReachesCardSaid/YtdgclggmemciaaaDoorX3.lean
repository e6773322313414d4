/- The law GraphReaches, walked. -/
import Derived.Test.YtdgclggmemciaaaDoorB1
namespace Go.Proofs.YtdgclggmemciaaaDoor
open Go.RowKit
set_option linter.unusedSimpArgs false
set_option linter.unusedVariables false
set_option maxRecDepth 100000 in
set_option maxHeartbeats 1000000 in
theorem reaches_walk (n f : Int) (A : Option Addr) (len cap : Nat) (L : List (Int × Int)) (w : World) (hl : L.length = len) (hL : Pairs w (.slice A len cap) L) (hg : ErrType w) :
    Calls Tryd.prog 3 #[.int .i64 n, .slice A len cap, .int .i64 f] w (TrueSaid w) := by
  subst hl
  have HW := Lib.hid (fun W => huge_walk n A L.length cap W)
  have SW := Lib.hid (fun W => sure_walk W)
  by_cases hh : hugeB n L.length = true
  · rw [hh] at HW
    clear hh hL
    go_enter Tryd.func3, Tryd.ntmps3
    go_wp2_with (fail)
    refine (HW.out _).mono ?_
    rintro x w1 ⟨rfl, rfl⟩
    go_wp2_with (fail)
    refine (SW.out _).mono ?_
    rintro x w2 ⟨rfl, B2⟩
    go_wp2
    go_ret
    exact ⟨rfl, B2⟩
  · have hh' : hugeB n L.length = false := by simpa using hh
    rw [hh'] at HW
    have HL := Lib.hid hL
    have HG := Lib.hid hg
    have RC := Lib.hid (fun W h => refCheck_walk n (.slice A L.length cap) L W h)
    by_cases hc : chkF n L = 0
    · rw [hc] at RC
      by_cases hf : f < 0 ∨ n ≤ f
      · have RB := Lib.hid (reach_away n f _ L w hL hc hf)
        clear hh hh' hL hc hg
        have key : ∀ b1 b2, decide (f < 0) = b1 → decide (n ≤ f) = b2 → (b1 || b2) = true → Calls Tryd.prog 3 #[.int .i64 n, .slice A L.length cap, .int .i64 f] w (TrueSaid w) := by
          intro b1 b2 d1 d2 d3
          clear hf
          go_enter Tryd.func3, Tryd.ntmps3
          go_wp2_with (fail)
          refine (HW.out _).mono ?_
          rintro x w1 ⟨rfl, rfl⟩
          go_wp2_with (fail)
          refine RB.out.mono ?_
          rintro x w2 ⟨rfl, B2⟩
          have RC2 := Lib.hid (RC.out w2 (HL.out.below B2))
          have NH := Lib.hid (num_hit 5 w2 (HG.out.below B2))
          go_wp2_with (fail)
          refine RC2.out.mono ?_
          rintro x w3 ⟨rfl, rfl⟩
          cases b1
          · cases b2
            · simp at d3
            · clear d3
              go_wp2_with (fail)
              refine NH.out.mono ?_
              rintro x w4 ⟨rfl, B4⟩
              go_wp2_with (fail)
              refine (SW.out _).mono ?_
              rintro x w5 ⟨rfl, B5⟩
              have B := below_trans (below_trans B2 B4) B5
              go_wp2
              go_ret
              exact ⟨rfl, B⟩
          · clear d3
            go_wp2_with (fail)
            refine NH.out.mono ?_
            rintro x w4 ⟨rfl, B4⟩
            go_wp2_with (fail)
            refine (SW.out _).mono ?_
            rintro x w5 ⟨rfl, B5⟩
            have B := below_trans (below_trans B2 B4) B5
            go_wp2
            go_ret
            exact ⟨rfl, B⟩
        exact key _ _ rfl rfl (by simpa using hf)
      · obtain ⟨M, E, rfl, rfl, hE, hM, hm⟩ := chkF_zero hc
        obtain ⟨F, rfl⟩ := Int.eq_ofNat_of_zero_le (by omega : 0 ≤ f)
        have hFM : F < M := by omega
        rw [castE_len] at *
        have RO := Lib.hid (reach_ok M F _ E w hL hE hM hm hFM)
        have RR := Lib.hid (fun W h => refReach_walk M F A cap E W h hE hM hm)
        have d1 : decide ((F : Int) < 0) = false := decide_eq_false (by omega)
        have d2 : decide ((M : Int) ≤ (F : Int)) = false := decide_eq_false (by omega)
        clear hh hh' hL hc hg hf hE hm
        generalize E.length = m at *
        go_enter Tryd.func3, Tryd.ntmps3
        go_wp2_with (fail)
        refine (HW.out _).mono ?_
        rintro x w1 ⟨rfl, rfl⟩
        go_wp2_with (fail)
        refine RO.out.mono ?_
        rintro x w2 ⟨seen, u, hs, rfl, hu, B2⟩
        have RC2 := Lib.hid (RC.out w2 (HL.out.below B2))
        have RR2 := Lib.hid (RR.out w2 (HL.out.below B2))
        have HU := Lib.hid (Reads.of_owns hu)
        have HS := Lib.hid hs
        clear hs hu RO RR
        go_wp2_with (fail)
        refine RC2.out.mono ?_
        rintro x w3 ⟨rfl, rfl⟩
        go_wp2_with (fail)
        refine RR2.out.mono ?_
        rintro x w4 ⟨seen2, u2, hs2, rfl, hu2, B4⟩
        have hss : seen = seen2 := by
          funext y
          rw [Bool.eq_iff_iff, HS.out, hs2]
        subst hss
        have hfl := filt_len seen M
        have IW := Lib.hid (ints_walk u u2 _ _ w4 (HU.out.below B4) (Reads.of_owns hu2) (by omega) (by omega))
        have B24 := below_trans B2 B4
        clear hs2 hu2 HU HS RC2 RR2
        go_wp2_with (fail)
        refine IW.out.mono ?_
        rintro x w5 ⟨rfl, q, rfl⟩
        rw [decide_eq_true rfl]
        have B5 := below_drewN B24 q
        go_wp2_with (fail)
        refine (SW.out _).mono ?_
        rintro x w6 ⟨rfl, B6⟩
        have B := below_trans B5 B6
        go_wp2
        go_ret
        exact ⟨rfl, B⟩
    · have RB := Lib.hid (reach_bad n f _ L w hL hc)
      have hk : ((chkF n L : Int) == 0) = false := by rw [beq_eq_false_iff_ne]; exact hc
      have hk2 : ((chkF n L : Int) != 0) = true := by rw [bne_iff_ne]; exact hc
      clear hh hh' hL hc hg
      generalize chkF n L = k at *
      go_enter Tryd.func3, Tryd.ntmps3
      go_wp2_with (fail)
      refine (HW.out _).mono ?_
      rintro x w1 ⟨rfl, rfl⟩
      go_wp2_with (fail)
      refine RB.out.mono ?_
      rintro x w2 ⟨rfl, B2⟩
      have RC2 := Lib.hid (RC.out w2 (HL.out.below B2))
      have NH := Lib.hid (num_hit k w2 (HG.out.below B2))
      go_wp2_with (fail)
      refine RC2.out.mono ?_
      rintro x w3 ⟨rfl, rfl⟩
      go_wp2_with (fail)
      refine NH.out.mono ?_
      rintro x w4 ⟨rfl, B4⟩
      go_wp2_with (fail)
      refine (SW.out _).mono ?_
      rintro x w5 ⟨rfl, B5⟩
      have B := below_trans (below_trans B2 B4) B5
      go_wp2
      go_ret
      exact ⟨rfl, B⟩
end Go.Proofs.YtdgclggmemciaaaDoor
