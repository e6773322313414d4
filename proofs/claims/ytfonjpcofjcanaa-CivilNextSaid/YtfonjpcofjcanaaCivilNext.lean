/- For every number n, the law CivilNext answers true: the next day is the next date, and the weekday goes on. No condition. -/
import Derived.Test.YtfonjpcofjcanaaRows
import Derived.Test.YtfonjpcofjcanaaWalks
import Derived.ProofKit
import Derived.OpenShut
import Derived.ShutString
import Derived.ChangeOld
import Derived.SizedLaws
import Derived.Lib.SmallJoins
namespace Go.Proofs.Ytfonjpcofjcanaa
section
open Go.RowKit
set_option maxHeartbeats 2000000 in
theorem next_walk (n : Int) (w : World) (hn1 : -9223372036854775808 ≤ n) (hn2 : n ≤ 9223372036854775807) : Calls Try.prog 3 #[.int .i64 n] w fun e w' => e = .returned (.bool true) ∧ Below w.heap.size w w' := by
  by_cases h1 : n < -70368744177664
  · have d1 : decide (n < -70368744177664) = true := decide_eq_true h1
    go_enter Try.func3, Try.ntmps3
    go_wp2_with (fail)
    refine (sure_walk _).mono ?_
    rintro e w1 ⟨rfl, hb⟩
    go_wp2
    go_ret
    exact ⟨rfl, hb⟩
  have d1 : decide (n < -70368744177664) = false := decide_eq_false h1
  by_cases h2 : 70368744177664 ≤ n
  · have d2 : decide (70368744177664 ≤ n) = true := decide_eq_true h2
    go_enter Try.func3, Try.ntmps3
    go_wp2_with (fail)
    refine (sure_walk _).mono ?_
    rintro e w1 ⟨rfl, hb⟩
    go_wp2
    go_ret
    exact ⟨rfl, hb⟩
  have d2 : decide (70368744177664 ≤ n) = false := decide_eq_false h2
  have ha := fun w => of_walk n w (by omega) (by omega)
  have hb := fun w => of_walk (n + 1) w (by omega) (by omega)
  obtain ⟨hok, hdn⟩ := of_ok n
  have hyr := of_yr n (by omega) (by omega)
  rw [of_next n] at hb
  have hc := fun w => days_walk (ofI n).1 (ofI n).2.1 (ofI n).2.2 w ⟨by omega, by omega⟩ hok
  rw [hdn] at hc
  generalize (ofI n).1 = y at *
  generalize (ofI n).2.1 = m at *
  generalize (ofI n).2.2 = d at *
  clear hdn
  obtain ⟨o1, o2, o3, o4⟩ := hok
  have hlb := lenC_bd y m
  have hlb1 := hlb.1
  have hlb2 := hlb.2
  have hyr1 := hyr.1
  have hyr2 := hyr.2
  clear hlb hyr
  have k0 : 0 ≤ (n + 4) % 7 := by omega
  have k1 : (n + 4) % 7 < 7 := by omega
  have hw : ((n + 1 + 4) % 7 != ((n + 4) % 7 + 1) % 7) = false := by rw [bne_eq_false_iff_eq]; omega
  have HA := Lib.hid ha; clear ha
  have HC := Lib.hid hc; clear hc
  have HW := Lib.hid hw; clear hw
  by_cases hd : d = lenC y m
  · have t1 : (d == lenC y m) = true := beq_iff_eq.2 hd
    by_cases h12 : m + 1 = 13
    · have t2 : (m + 1 == 13) = true := beq_iff_eq.2 h12
      rw [show nextC y m d = (y + 1, 1, 1) by unfold nextC; rw [if_pos hd, if_pos h12]] at hb
      dsimp only at hb
      have HB := Lib.hid hb; clear hb hd h12
      go_enter Try.func3, Try.ntmps3
      go_wp2_with (fail)
      refine (HA.out _).mono ?_
      rintro e w1 ⟨rfl, hb1⟩
      go_wp2_with (fail)
      refine (HB.out _).mono ?_
      rintro e w2 ⟨rfl, hb2⟩
      have hz2 : w1.heap.size < w2.heap.size := by have := hb2.size; simp at this; omega
      have c20 : w2.cell? ⟨w1.heap.size, 0, none⟩ = some (.int .i64 y) := ((bcell hb2).1 _ _ (by simp)).trans (World.cell?_alloc_new _ _ _ _)
      have c21 : w2.cell? ⟨w1.heap.size, 1, none⟩ = some (.int .i64 m) := ((bcell hb2).1 _ _ (by simp)).trans (World.cell?_alloc_new _ _ _ _)
      have c22 : w2.cell? ⟨w1.heap.size, 2, none⟩ = some (.int .i64 d) := ((bcell hb2).1 _ _ (by simp)).trans (World.cell?_alloc_new _ _ _ _)
      go_wp2_with (fail)
      refine (HC.out _).mono ?_
      rintro e w3 ⟨rfl, hb3⟩
      have hz3 : w2.heap.size < w3.heap.size := by have := hb3.size; simp at this; omega
      have c3 := (bcell hb3).1
      have hz32 : w1.heap.size < w3.heap.size := by omega
      have c30 : w3.cell? ⟨w1.heap.size, 0, none⟩ = some (.int .i64 y) := (c3 _ _ (by simp; omega)).trans (by rw [World.cell?_alloc_lt _ _ _ hz2]; exact c20)
      have c31 : w3.cell? ⟨w1.heap.size, 1, none⟩ = some (.int .i64 m) := (c3 _ _ (by simp; omega)).trans (by rw [World.cell?_alloc_lt _ _ _ hz2]; exact c21)
      have c32 : w3.cell? ⟨w1.heap.size, 2, none⟩ = some (.int .i64 d) := (c3 _ _ (by simp; omega)).trans (by rw [World.cell?_alloc_lt _ _ _ hz2]; exact c22)
      have d30 : w3.cell? ⟨w2.heap.size, 0, none⟩ = some (.int .i64 (y + 1)) := (c3 _ _ (by simp)).trans (World.cell?_alloc_new _ _ _ _)
      have d31 : w3.cell? ⟨w2.heap.size, 1, none⟩ = some (.int .i64 (1)) := (c3 _ _ (by simp)).trans (World.cell?_alloc_new _ _ _ _)
      have d32 : w3.cell? ⟨w2.heap.size, 2, none⟩ = some (.int .i64 (1)) := (c3 _ _ (by simp)).trans (World.cell?_alloc_new _ _ _ _)
      clear c3
      go_wp2_with (fail)
      refine (length_walk _ _ _ o1 o2 (by omega) (by omega)).mono ?_
      rintro e w4 ⟨rfl, rfl⟩
      go_wp2_with (fail)
      refine (week_walk _ _).mono ?_
      rintro e w4 ⟨rfl, rfl⟩
      go_wp2_with (fail)
      refine (week_walk _ _).mono ?_
      rintro e w4 ⟨rfl, rfl⟩
      go_wp2_with (fail)
      refine (sure_walk _).mono ?_
      rintro e w4 ⟨rfl, hb4⟩
      go_wp2
      go_ret
      exact ⟨rfl, below_step (below_step (below_step hb1 hb2) hb3) hb4⟩
    · have t2 : (m + 1 == 13) = false := beq_eq_false_iff_ne.2 h12
      rw [show nextC y m d = (y, m + 1, 1) by unfold nextC; rw [if_pos hd, if_neg h12]] at hb
      dsimp only at hb
      have HB := Lib.hid hb; clear hb hd
      go_enter Try.func3, Try.ntmps3
      go_wp2_with (fail)
      refine (HA.out _).mono ?_
      rintro e w1 ⟨rfl, hb1⟩
      go_wp2_with (fail)
      refine (HB.out _).mono ?_
      rintro e w2 ⟨rfl, hb2⟩
      have hz2 : w1.heap.size < w2.heap.size := by have := hb2.size; simp at this; omega
      have c20 : w2.cell? ⟨w1.heap.size, 0, none⟩ = some (.int .i64 y) := ((bcell hb2).1 _ _ (by simp)).trans (World.cell?_alloc_new _ _ _ _)
      have c21 : w2.cell? ⟨w1.heap.size, 1, none⟩ = some (.int .i64 m) := ((bcell hb2).1 _ _ (by simp)).trans (World.cell?_alloc_new _ _ _ _)
      have c22 : w2.cell? ⟨w1.heap.size, 2, none⟩ = some (.int .i64 d) := ((bcell hb2).1 _ _ (by simp)).trans (World.cell?_alloc_new _ _ _ _)
      go_wp2_with (fail)
      refine (HC.out _).mono ?_
      rintro e w3 ⟨rfl, hb3⟩
      have hz3 : w2.heap.size < w3.heap.size := by have := hb3.size; simp at this; omega
      have c3 := (bcell hb3).1
      have hz32 : w1.heap.size < w3.heap.size := by omega
      have c30 : w3.cell? ⟨w1.heap.size, 0, none⟩ = some (.int .i64 y) := (c3 _ _ (by simp; omega)).trans (by rw [World.cell?_alloc_lt _ _ _ hz2]; exact c20)
      have c31 : w3.cell? ⟨w1.heap.size, 1, none⟩ = some (.int .i64 m) := (c3 _ _ (by simp; omega)).trans (by rw [World.cell?_alloc_lt _ _ _ hz2]; exact c21)
      have c32 : w3.cell? ⟨w1.heap.size, 2, none⟩ = some (.int .i64 d) := (c3 _ _ (by simp; omega)).trans (by rw [World.cell?_alloc_lt _ _ _ hz2]; exact c22)
      have d30 : w3.cell? ⟨w2.heap.size, 0, none⟩ = some (.int .i64 (y)) := (c3 _ _ (by simp)).trans (World.cell?_alloc_new _ _ _ _)
      have d31 : w3.cell? ⟨w2.heap.size, 1, none⟩ = some (.int .i64 (m + 1)) := (c3 _ _ (by simp)).trans (World.cell?_alloc_new _ _ _ _)
      have d32 : w3.cell? ⟨w2.heap.size, 2, none⟩ = some (.int .i64 (1)) := (c3 _ _ (by simp)).trans (World.cell?_alloc_new _ _ _ _)
      clear c3
      go_wp2_with (fail)
      refine (length_walk _ _ _ o1 o2 (by omega) (by omega)).mono ?_
      rintro e w4 ⟨rfl, rfl⟩
      go_wp2_with (fail)
      refine (week_walk _ _).mono ?_
      rintro e w4 ⟨rfl, rfl⟩
      go_wp2_with (fail)
      refine (week_walk _ _).mono ?_
      rintro e w4 ⟨rfl, rfl⟩
      go_wp2_with (fail)
      refine (sure_walk _).mono ?_
      rintro e w4 ⟨rfl, hb4⟩
      go_wp2
      go_ret
      exact ⟨rfl, below_step (below_step (below_step hb1 hb2) hb3) hb4⟩
  · have t1 : (d == lenC y m) = false := beq_eq_false_iff_ne.2 hd
    have t2 : (m == 13) = false := beq_eq_false_iff_ne.2 (by omega)
    rw [show nextC y m d = (y, m, d + 1) by unfold nextC; rw [if_neg hd]] at hb
    dsimp only at hb
    have HB := Lib.hid hb; clear hb hd
    go_enter Try.func3, Try.ntmps3
    go_wp2_with (fail)
    refine (HA.out _).mono ?_
    rintro e w1 ⟨rfl, hb1⟩
    go_wp2_with (fail)
    refine (HB.out _).mono ?_
    rintro e w2 ⟨rfl, hb2⟩
    have hz2 : w1.heap.size < w2.heap.size := by have := hb2.size; simp at this; omega
    have c20 : w2.cell? ⟨w1.heap.size, 0, none⟩ = some (.int .i64 y) := ((bcell hb2).1 _ _ (by simp)).trans (World.cell?_alloc_new _ _ _ _)
    have c21 : w2.cell? ⟨w1.heap.size, 1, none⟩ = some (.int .i64 m) := ((bcell hb2).1 _ _ (by simp)).trans (World.cell?_alloc_new _ _ _ _)
    have c22 : w2.cell? ⟨w1.heap.size, 2, none⟩ = some (.int .i64 d) := ((bcell hb2).1 _ _ (by simp)).trans (World.cell?_alloc_new _ _ _ _)
    go_wp2_with (fail)
    refine (HC.out _).mono ?_
    rintro e w3 ⟨rfl, hb3⟩
    have hz3 : w2.heap.size < w3.heap.size := by have := hb3.size; simp at this; omega
    have c3 := (bcell hb3).1
    have hz32 : w1.heap.size < w3.heap.size := by omega
    have c30 : w3.cell? ⟨w1.heap.size, 0, none⟩ = some (.int .i64 y) := (c3 _ _ (by simp; omega)).trans (by rw [World.cell?_alloc_lt _ _ _ hz2]; exact c20)
    have c31 : w3.cell? ⟨w1.heap.size, 1, none⟩ = some (.int .i64 m) := (c3 _ _ (by simp; omega)).trans (by rw [World.cell?_alloc_lt _ _ _ hz2]; exact c21)
    have c32 : w3.cell? ⟨w1.heap.size, 2, none⟩ = some (.int .i64 d) := (c3 _ _ (by simp; omega)).trans (by rw [World.cell?_alloc_lt _ _ _ hz2]; exact c22)
    have d30 : w3.cell? ⟨w2.heap.size, 0, none⟩ = some (.int .i64 (y)) := (c3 _ _ (by simp)).trans (World.cell?_alloc_new _ _ _ _)
    have d31 : w3.cell? ⟨w2.heap.size, 1, none⟩ = some (.int .i64 (m)) := (c3 _ _ (by simp)).trans (World.cell?_alloc_new _ _ _ _)
    have d32 : w3.cell? ⟨w2.heap.size, 2, none⟩ = some (.int .i64 (d + 1)) := (c3 _ _ (by simp)).trans (World.cell?_alloc_new _ _ _ _)
    clear c3
    go_wp2_with (fail)
    refine (length_walk _ _ _ o1 o2 (by omega) (by omega)).mono ?_
    rintro e w4 ⟨rfl, rfl⟩
    go_wp2_with (fail)
    refine (week_walk _ _).mono ?_
    rintro e w4 ⟨rfl, rfl⟩
    go_wp2_with (fail)
    refine (week_walk _ _).mono ?_
    rintro e w4 ⟨rfl, rfl⟩
    go_wp2_with (fail)
    refine (sure_walk _).mono ?_
    rintro e w4 ⟨rfl, hb4⟩
    go_wp2
    go_ret
    exact ⟨rfl, below_step (below_step (below_step hb1 hb2) hb3) hb4⟩
theorem wf_i64 {a : Int} (h : (Lit.int .i64 a).wf = true) : -9223372036854775808 ≤ a ∧ a ≤ 9223372036854775807 := by
  simp only [Lit.wf, Bool.and_eq_true, decide_eq_true_eq] at h
  have e1 : IntKind.i64.min = -9223372036854775808 := by decide
  have e2 : IntKind.i64.max = 9223372036854775807 := by decide
  omega
end
section
open Go.ChangeShapes Go.WideShapes Go.ChangeAt Go.RowKit Go.Joins
set_option linter.unusedVariables false

theorem civilNext_own : ownKnob Try.prog.godebug = none := by kernel_rfl
set_option maxRecDepth 100000 in
theorem civilNext_lifted (os : Os) (started : os.Started) (H : Type) (enc : TypeId × Value → H) :
    ReturnsInHanded {} Try.checked os 3 .any (Rows.civilNextSpec.pre6 enc Try.prog Try.f3 Rows.civilNextRow.domain false) (Rows.civilNextSpec.post enc Try.prog Try.f3 false true false false) := by
  refine returnsInHanded_of_change_sized (C := Try.checked) civilNext_own started (by kernel_rfl) Try.func3
    (ChangeSpec.witness6 (enc := enc) (C := Try.checked) false ⟨#[], #[.int .i64 0], []⟩ 8 (by kernel_rfl) (by kernel_rfl) (by kernel_rfl) (by kernel_rfl)) ?_
  intro W base args ds gs before hval0 hW hcnd hsz0 _
  have hval : ∀ (j : Nat) t v, Try.f3.params[j]? = some t → args[j]? = some v → Value.okWide Try.prog W .any base t v := hval0
  have hW' := hW
  obtain ⟨p, q, hA0, hV, rfl, hfz, hnd⟩ := hW
  have hA : DataW.TrodAll enc Try.prog W 0 (fun _ => true) true Try.f3.params.toList args.toList ds p := hA0
  rw [Try.params3] at hA hval
  obtain ⟨v0, vs0, d0, ds0, p0, q0, hargs, rfl, rfl, h0, r0⟩ := trodAll_cons hA
  obtain ⟨rfl, rfl, rfl⟩ := trodAll_nil r0
  obtain rfl : args = #[v0] := by cases args; simp_all
  obtain ⟨rfl, rfl⟩ := trodVars_none hV
  obtain ⟨a0, rfl, rfl, rfl, w0⟩ := open_int Try.underlying3 (hval 0 3 v0 rfl rfl) h0
  obtain ⟨b1, b2⟩ := wf_i64 w0
  clear hA0 hval0 hsz0
  refine (next_walk a0 W b1 b2).mono fun e W' ⟨he, bel⟩ => ?_
  subst he
  exact ⟨_, rfl, _, _, _, [], _, [], hW', trodAll_mk1 (shut_bool Try.underlying4 _), (trodAll_cons_mk (shut_int Try.underlying3 w0) trodAll_mk0), rfl, bel.frame _, fun h => by cases h⟩
theorem civilNext_holds : Rows.CivilNextSaid :=
  OpenClaim.holds_of_wide 3 Try.f3 rfl rfl rfl rfl rfl rfl rfl ⟨rfl, rfl, rfl, rfl, rfl⟩ rfl rfl rfl rfl rfl (by kernel_rfl) Try.func3 (by kernel_rfl)
    (of_decide_eq_true (by kernel_rfl)) (by unfold Func.isWrapper; first | (rw [if_pos (by decide +kernel)]; kernel_rfl) | (rw [if_neg (by decide +kernel)]; exact ⟨rfl, rfl⟩))
    (fun os started H enc _ => civilNext_lifted os started H enc)
#print axioms civilNext_holds
end
end Go.Proofs.Ytfonjpcofjcanaa
