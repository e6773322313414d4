/- ReachHosts, walked. -/
import Derived.Test.YtbnnbhblfclomaaDoorR4
import Derived.Test.YtbnnbhblfclomaaDoorNum
namespace Go.Proofs.YtbnnbhblfclomaaDoor
open Go.RowKit
set_option linter.unusedSimpArgs false
set_option linter.unusedVariables false
theorem num_errI (e : Int) (w : World) (hg : ErrType w) : Calls Tryd.prog 11 #[errI e] w fun y w' => y = .returned (.int .i64 e) ∧ Below w.heap.size w w' := by
  unfold errI
  split
  · rename_i h; subst h; exact num_nil w
  · exact num_hit e w hg
set_option maxRecDepth 100000 in
set_option maxHeartbeats 4000000 in
theorem reachHosts_walk (u v : Value) (LL : List (List Int)) (fs : List Bool) (w : World) (hg : ErrType w) (hu : RdLL w u w.heap.size LL) (hv : RdB w v w.heap.size fs) (hfz : fs.length ≤ 9223372036854775807) (hLz : LL.length ≤ 9223372036854775807)
    (hz : ∀ i, i < LL.length → (Par LL i).length ≤ 9223372036854775807) : Calls Tryd.prog 3 #[u, v] w fun y w' => y = .returned (.bool true) ∧ Below w.heap.size w w' := by
  have HW := Lib.hid (huge_walk u LL w hu hLz hz)
  have SW := Lib.hid (sure_walk w)
  have HG := Lib.hid hg
  have H1 := Lib.hid (hosts_walk u v LL fs w hu hv hfz hLz)
  have H2 := Lib.hid (fun w1 (hb : Below w.heap.size w w1) => refHosts_walk u v LL fs w1 ((hu.below hb (Nat.le_refl _)).wider hb.size) ((hv.below hb (Nat.le_refl _)).wider hb.size) hfz hLz)
  obtain ⟨A, cap, rfl⟩ := hu.form
  obtain ⟨A1, cap1, rfl⟩ := hv.form
  clear hu hv hg hz
  go_enter Tryd.func3, Tryd.ntmps3
  go_wp2_with (fail)
  refine HW.out.mono ?_
  rintro y w1 ⟨⟨b, rfl, hb⟩, rfl⟩
  clear HW
  cases b with
  | true =>
    go_wp2_with (fail)
    refine SW.out.mono ?_
    rintro y w2 ⟨rfl, B2⟩
    go_wp2
    go_ret
    exact ⟨rfl, B2⟩
  | false =>
    have HB := Lib.hid (hb rfl)
    clear hb SW
    go_wp2_with (fail)
    refine (H1.out HB.out).mono ?_
    rintro y w2 ⟨⟨r, L, e, rfl, his, hrd, hl⟩, B2⟩
    have B2 := Lib.hid B2
    have HI := Lib.hid his
    have HR := Lib.hid hrd
    clear his hrd H1
    go_wp2_with (fail)
    refine (H2.out w2 B2.out HB.out).mono ?_
    rintro y w3 ⟨⟨r2, L2, e2, rfl, his2, hrd2, hl2⟩, B3⟩
    obtain ⟨rfl, rfl⟩ := HI.out.one his2
    have IW := Lib.hid (intsI_walk r r2 L w3 ((HR.out.below B3 (Nat.le_refl _)).wider B3.size) hrd2 (by omega))
    have B4 := Lib.hid (below_trans B2.out B3)
    clear his2 hrd2 B3 H2 HI HR B2
    go_wp2_with (fail)
    refine IW.out.mono ?_
    rintro y w4 ⟨rfl, B5⟩
    have B6 := Lib.hid (below_trans B4.out B5)
    clear B5 IW B4
    go_wp2_with (fail)
    refine (num_errI e _ (HG.out.below B6.out)).mono ?_
    rintro y w5 ⟨rfl, B7⟩
    have B8 := Lib.hid (below_trans B6.out B7)
    have hee : (e == e) = true := by simp
    clear B7 B6
    go_wp2_with (fail)
    refine (sure_walk _).mono ?_
    rintro y w6 ⟨rfl, B9⟩
    have B10 := below_trans B8.out B9
    go_wp2
    go_ret
    exact ⟨rfl, B10⟩
end Go.Proofs.YtbnnbhblfclomaaDoor
