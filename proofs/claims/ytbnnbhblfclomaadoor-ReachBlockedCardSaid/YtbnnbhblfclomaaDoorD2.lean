/- ReachBlocked, walked. -/
import Derived.Test.YtbnnbhblfclomaaDoorB8
import Derived.Test.YtbnnbhblfclomaaDoorB10
import Derived.Test.YtbnnbhblfclomaaDoorD1
namespace Go.Proofs.YtbnnbhblfclomaaDoor
open Go.RowKit
set_option linter.unusedSimpArgs false
set_option linter.unusedVariables false
set_option maxRecDepth 100000 in
set_option maxHeartbeats 8000000 in
theorem reachBlocked_walk (v u : Value) (D : List Dp) (S : List Int) (of_ : Int) (w : World) (hg : ErrType w) (hD : RdD w v w.heap.size D) (hS : RdI w u w.heap.size S) (hl : D.length ≤ 9223372036854775807) (hs : S.length ≤ 9223372036854775807) :
    Calls Tryd.prog 4 #[v, u, .int .i64 of_] w fun y w' => y = .returned (.bool true) ∧ Below w.heap.size w w' := by
  have HG := Lib.hid hg
  have HD := Lib.hid hD
  have HS := Lib.hid hS
  obtain ⟨A, cap, rfl⟩ := hD.form
  obtain ⟨A1, cap1, rfl⟩ := hS.form
  have SW := Lib.hid (sure_walk w)
  clear hg hD hS
  by_cases h1 : 60 < D.length
  · have h1' : (60 : Int) < (D.length : Int) := by omega
    clear h1
    go_enter Tryd.func4, Tryd.ntmps4
    go_wp2_with (fail)
    refine SW.out.mono ?_
    rintro y w2 ⟨rfl, B2⟩
    go_wp2
    go_ret
    exact ⟨rfl, B2⟩
  have h1' : ¬ (60 : Int) < (D.length : Int) := by omega
  by_cases h2 : 60 < S.length
  · have h2' : (60 : Int) < (S.length : Int) := by omega
    clear h2
    go_enter Tryd.func4, Tryd.ntmps4
    go_wp2_with (fail)
    refine SW.out.mono ?_
    rintro y w2 ⟨rfl, B2⟩
    go_wp2
    go_ret
    exact ⟨rfl, B2⟩
  have h2' : ¬ (60 : Int) < (S.length : Int) := by omega
  have hl60 : D.length ≤ 60 := by omega
  have hs60 : S.length ≤ 60 := by omega
  have G1 := Lib.hid (give_walk _ D w HD.out hl60)
  clear SW h1 h2
  go_enter Tryd.func4, Tryd.ntmps4
  go_wp2_with (fail)
  refine G1.out.mono ?_
  rintro y w1 ⟨⟨v1, rfl, own1⟩, B1⟩
  have BT1 := Lib.hid B1
  have W1 := Lib.hid (blocked_walk v1 _ D S of_ w1 (RdD.of_owns own1 rfl (Nat.le_refl _)) ((HS.out.below B1 (Nat.le_refl _)).wider B1.size) hl60 hs60)
  clear G1 own1 B1
  go_wp2_with (fail)
  refine W1.out.mono ?_
  rintro y w2 ⟨rfl, B2⟩
  have BT2 := Lib.hid (below_trans BT1.out B2)
  have W2 := Lib.hid (refBlocked_walk (.slice A D.length cap) (.slice A1 S.length cap1) D S of_ w2 ((HD.out.below BT2.out (Nat.le_refl _)).wider BT2.out.size) ((HS.out.below BT2.out (Nat.le_refl _)).wider BT2.out.size) hl60 hs60)
  clear W1 B2 BT1
  go_wp2_with (fail)
  refine W2.out.mono ?_
  rintro y w3 ⟨rfl, rfl⟩
  have G2 := Lib.hid (give_walk _ D w3 ((HD.out.below BT2.out (Nat.le_refl _)).wider BT2.out.size) hl60)
  clear W2
  go_wp2_with (fail)
  refine G2.out.mono ?_
  rintro y w4 ⟨⟨v4, rfl, own4⟩, B4⟩
  have BT4 := Lib.hid (below_trans BT2.out B4)
  have W4 := Lib.hid (masters_walk v4 D (S.length : Int) of_ w4 (RdD.of_owns own4 rfl (Nat.le_refl _)) hl60)
  clear G2 own4 B4 BT2
  go_wp2_with (fail)
  refine W4.out.mono ?_
  rintro y w5 ⟨⟨r5, rfl, hr5, hn5⟩, B5⟩
  have BT5 := Lib.hid (below_trans BT4.out B5)
  have HR5 := Lib.hid hr5
  have W5 := Lib.hid (refMasters_walk (.slice A D.length cap) D (S.length : Int) of_ w5 ((HD.out.below BT5.out (Nat.le_refl _)).wider BT5.out.size) hl60)
  clear W4 B5 BT4 hr5
  go_wp2_with (fail)
  refine W5.out.mono ?_
  rintro y w6 ⟨⟨r6, rfl, hr6, hn6⟩, B6⟩
  have BT6 := Lib.hid (below_trans BT5.out B6)
  have W6 := Lib.hid (fun w7 (hb : Below w6.heap.size w6 w7) => intsI_walk r5 r6 _ w7 (((HR5.out.below B6 (Nat.le_refl _)).wider B6.size).below hb (Nat.le_refl _) |>.wider hb.size) ((hr6.below hb (Nat.le_refl _)).wider hb.size) (by simp; omega))
  clear W5 B6 BT5 hr6 HR5
  generalize blockedB D S of_ = bb at *
  generalize blockedE D S of_ = be at *
  generalize mastersE D (S.length : Int) of_ = me at *
  have f1 : (bb == bb) = true := by simp
  have f2 : (be == be) = true := by simp
  have f3 : (me == me) = true := by simp
  go_wp2_with (fail)
  refine (num_errI be _ (HG.out.below BT6.out)).mono ?_
  rintro y w7 ⟨rfl, B7⟩
  have BT7 := Lib.hid (below_trans BT6.out B7)
  have W7 := Lib.hid (W6.out w7 B7)
  clear W6 B7 BT6
  go_wp2_with (fail)
  refine W7.out.mono ?_
  rintro y w8 ⟨rfl, B8⟩
  have BT8 := Lib.hid (below_trans BT7.out B8)
  clear W7 B8 BT7
  go_wp2_with (fail)
  refine (num_errI me _ (HG.out.below BT8.out)).mono ?_
  rintro y w9 ⟨rfl, B9⟩
  have BT9 := Lib.hid (below_trans BT8.out B9)
  clear B9 BT8
  go_wp2_with (fail)
  refine (sure_walk _).mono ?_
  rintro y w10 ⟨rfl, B10⟩
  have B11 := below_trans BT9.out B10
  go_wp2
  go_ret
  exact ⟨rfl, B11⟩
end Go.Proofs.YtbnnbhblfclomaaDoor
