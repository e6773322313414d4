/- For every date d, the law CivilCycles answers true: 400 years on the same date is 146,097 days on, the same weekday. No condition. -/
import Derived.Test.YtfonjpcofjcanaaRows
import Derived.Test.YtfonjpcofjcanaaWalks
import Derived.ProofKit
import Derived.OpenShut
import Derived.ShutString
import Derived.ChangeOld
import Derived.SizedLaws
import Derived.Lib.SmallJoins
namespace Go.Proofs.Ytfonjpcofjcanaa
section
open Go.RowKit
theorem rleap_walk (y : Int) (w : World) : Calls Try.prog 17 #[.int .i64 y] w fun e w' => e = .returned (.bool (leapC y)) ∧ w = w' := by
  have k4 := tmod0 y 4 (by decide)
  have k1 := tmod0 y 100 (by decide)
  have k400 := tmod0 y 400 (by decide)
  by_cases h400 : y % 400 = 0
  · have e4 : (Int.tmod y 400 == 0) = true := beq_iff_eq.2 (k400.2 h400)
    have H := Lib.hid (show true = leapC y from by unfold leapC; rw [decide_eq_true]; omega)
    clear k4 k1 k400 h400
    go_enter Try.func17, Try.ntmps17
    go_wp2
    go_ret
    exact ⟨ret_bool H.out, rfl⟩
  · have e400 : (Int.tmod y 400 == 0) = false := beq_eq_false_iff_ne.2 (fun h => h400 (k400.1 h))
    by_cases h4 : y % 4 = 0
    · have e4 : (Int.tmod y 4 == 0) = true := beq_iff_eq.2 (k4.2 h4)
      have H := Lib.hid (show (Int.tmod y 100 != 0) = leapC y from by
        unfold leapC; rw [Bool.eq_iff_iff, bne_iff_ne, decide_eq_true_iff, ne_eq, k1]; omega)
      clear k4 k1 k400 h4 h400
      go_enter Try.func17, Try.ntmps17
      go_wp2
      go_ret
      exact ⟨ret_bool H.out, rfl⟩
    · have e4 : (Int.tmod y 4 == 0) = false := beq_eq_false_iff_ne.2 (fun h => h4 (k4.1 h))
      have H := Lib.hid (show false = leapC y from by unfold leapC; rw [decide_eq_false]; exact fun h => h4 h.1)
      clear k4 k1 k400 h4 h400
      go_enter Try.func17, Try.ntmps17
      go_wp2
      go_ret
      exact ⟨ret_bool H.out, rfl⟩
set_option maxHeartbeats 2000000 in
theorem rlen_walk (y m : Int) (w : World) (h1 : 1 ≤ m) (h2 : m ≤ 12) :
    Calls Try.prog 16 #[.int .i64 y, .int .i64 m] w fun e w' => e = .returned (.int .i64 (lenC y m)) ∧ Below w.heap.size w w' := by
  by_cases hf : m = 2 ∧ leapC y = true
  · obtain ⟨rfl, hl⟩ := hf
    have H := Lib.hid (show (29 : Int) = lenC y 2 from by unfold lenC; rw [if_pos rfl, if_pos hl])
    go_enter Try.func16, Try.ntmps16
    go_wp2_with (go_at_call 17; refine (rleap_walk _ _).mono ?_; rintro e w' ⟨rfl, rfl⟩)
    go_ret
    exact ⟨ret_int H.out, Below.refl _ _⟩
  · have hm : m = 1 ∨ m = 2 ∨ m = 3 ∨ m = 4 ∨ m = 5 ∨ m = 6 ∨ m = 7 ∨ m = 8 ∨ m = 9 ∨ m = 10 ∨ m = 11 ∨ m = 12 := by omega
    rcases hm with rfl | rfl | rfl | rfl | rfl | rfl | rfl | rfl | rfl | rfl | rfl | rfl
    case inr.inl =>
      have hl : leapC y = false := by cases h : leapC y with | true => exact absurd ⟨rfl, h⟩ hf | false => rfl
      have H := Lib.hid (show (28 : Int) = lenC y 2 from by unfold lenC; rw [if_pos rfl, hl]; rfl)
      clear hf
      go_enter Try.func16, Try.ntmps16
      go_wp2_with (go_at_call 17; refine (rleap_walk _ _).mono ?_; rintro e w' ⟨rfl, rfl⟩)
      go_ret
      exact ⟨ret_int H.out, (Below.refl _ _).alloc (Nat.le_refl _) _⟩
    all_goals
      clear hf
      go_enter Try.func16, Try.ntmps16
      go_wp2_with (go_at_call 17; refine (rleap_walk _ _).mono ?_; rintro e w' ⟨rfl, rfl⟩)
      go_ret
      exact ⟨ret_int (by simp [lenC]), (Below.refl _ _).alloc (Nat.le_refl _) _⟩
def mayB (y m d : Int) : Bool := decide (okY y ∧ 1 ≤ m ∧ m ≤ 12 ∧ 1 ≤ d ∧ d ≤ lenC y m)
def S3 (w : World) (g : Nat) (a b c : Value) (W : World) : Prop := W.cell? ⟨g, 0, none⟩ = some a ∧ W.cell? ⟨g, 1, none⟩ = some b ∧ W.cell? ⟨g, 2, none⟩ = some c ∧ g < W.heap.size ∧ Below w.heap.size w W
theorem s3_drew {w W : World} {g : Nat} {a b c : Value} (h : S3 w g a b c W) : S3 w g a b c W.drew := by
  obtain ⟨h0, h1, h2, h3, h4⟩ := h
  exact ⟨by simpa using h0, by simpa using h1, by simpa using h2, by simpa using h3, h4.drew⟩
theorem s3_below {w W W' : World} {g : Nat} {a b c : Value} (hb : Below W.heap.size W W') (h : S3 w g a b c W) : S3 w g a b c W' := by
  obtain ⟨h0, h1, h2, h3, h4⟩ := h
  exact ⟨((bcell hb).1 _ _ h3).trans h0, ((bcell hb).1 _ _ h3).trans h1, ((bcell hb).1 _ _ h3).trans h2, Nat.lt_of_lt_of_le h3 hb.size, below_trans h4 hb⟩
set_option maxHeartbeats 2000000 in
theorem may_walk (y m d : Int) (w : World) :
    Calls Try.prog 12 #[.agg #[.int .i64 y, .int .i64 m, .int .i64 d]] w fun e w' => e = .returned (.bool (mayB y m d)) ∧ Below w.heap.size w w' := by
  by_cases c1 : -274877906944 ≤ y
  · have a1 : decide (-274877906944 ≤ y) = true := decide_eq_true c1
    by_cases c2 : y ≤ 274877906944
    · have a2 : decide (y ≤ 274877906944) = true := decide_eq_true c2
      by_cases c3 : 1 ≤ m
      · have a3 : decide (1 ≤ m) = true := decide_eq_true c3
        by_cases c4 : m ≤ 12
        · have a4 : decide (m ≤ 12) = true := decide_eq_true c4
          by_cases c5 : 1 ≤ d
          · have a5 : decide (1 ≤ d) = true := decide_eq_true c5
            have H := Lib.hid (show decide (d ≤ lenC y m) = mayB y m d from by unfold mayB okY; rw [Bool.eq_iff_iff, decide_eq_true_iff, decide_eq_true_iff]; omega)
            go_enter Try.func12, Try.ntmps12
            go_wp2
            have q0 : (w.alloc (Obj.cells #[Value.int IntKind.i64 y, Value.int IntKind.i64 m, Value.int IntKind.i64 d] 34)).cell? ⟨w.heap.size, 0, none⟩ = some (.int .i64 y) := by simp
            have q1 : (w.alloc (Obj.cells #[Value.int IntKind.i64 y, Value.int IntKind.i64 m, Value.int IntKind.i64 d] 34)).cell? ⟨w.heap.size, 1, none⟩ = some (.int .i64 m) := by simp
            have q2 : (w.alloc (Obj.cells #[Value.int IntKind.i64 y, Value.int IntKind.i64 m, Value.int IntKind.i64 d] 34)).cell? ⟨w.heap.size, 2, none⟩ = some (.int .i64 d) := by simp
            have hsz : w.heap.size < (w.alloc (Obj.cells #[Value.int IntKind.i64 y, Value.int IntKind.i64 m, Value.int IntKind.i64 d] 34)).heap.size := by simp
            have hbel : Below w.heap.size w (w.alloc (Obj.cells #[Value.int IntKind.i64 y, Value.int IntKind.i64 m, Value.int IntKind.i64 d] 34)) := (Below.refl _ _).alloc (Nat.le_refl _) _
            generalize hW : w.alloc (Obj.cells #[Value.int IntKind.i64 y, Value.int IntKind.i64 m, Value.int IntKind.i64 d] 34) = W at *
            clear hW
            go_region_held3 (fun w' => w'.cell? ⟨w.heap.size, 0, none⟩ = some (.int .i64 y) ∧ w'.cell? ⟨w.heap.size, 1, none⟩ = some (.int .i64 m) ∧ w'.cell? ⟨w.heap.size, 2, none⟩ = some (.int .i64 d) ∧ w.heap.size < w'.heap.size ∧ Below w.heap.size w w')
              (first | (refine ⟨?_, ?_, ?_, ?_, ?_⟩ <;> assumption) | exact s3_drew ⟨by assumption, by assumption, by assumption, by assumption, by assumption⟩ | exact s3_below hb (by assumption))
              (first | (go_at_call 16; refine (rlen_walk _ _ _ c3 c4).mono ?_; rintro e w' ⟨rfl, hb⟩))
            all_goals
              go_wp2
              go_ret
              exact ⟨ret_bool H.out, (show S3 w w.heap.size (.int .i64 y) (.int .i64 m) (.int .i64 d) _ from by assumption).2.2.2.2⟩
          · have a5 : decide (1 ≤ d) = false := decide_eq_false c5
            have H := Lib.hid (show false = mayB y m d from by unfold mayB okY; rw [eq_comm, decide_eq_false_iff_not]; omega)
            go_enter Try.func12, Try.ntmps12
            go_wp2
            go_quiet (fail)
            go_wp2
            go_ret
            exact ⟨ret_bool H.out, below_drewN ((Below.refl _ _).alloc (Nat.le_refl _) _) _⟩
        · have a4 : decide (m ≤ 12) = false := decide_eq_false c4
          have H := Lib.hid (show false = mayB y m d from by unfold mayB okY; rw [eq_comm, decide_eq_false_iff_not]; omega)
          go_enter Try.func12, Try.ntmps12
          go_wp2
          go_quiet (fail)
          go_wp2
          go_ret
          exact ⟨ret_bool H.out, below_drewN ((Below.refl _ _).alloc (Nat.le_refl _) _) _⟩
      · have a3 : decide (1 ≤ m) = false := decide_eq_false c3
        have H := Lib.hid (show false = mayB y m d from by unfold mayB okY; rw [eq_comm, decide_eq_false_iff_not]; omega)
        go_enter Try.func12, Try.ntmps12
        go_wp2
        go_quiet (fail)
        go_wp2
        go_ret
        exact ⟨ret_bool H.out, below_drewN ((Below.refl _ _).alloc (Nat.le_refl _) _) _⟩
    · have a2 : decide (y ≤ 274877906944) = false := decide_eq_false c2
      have H := Lib.hid (show false = mayB y m d from by unfold mayB okY; rw [eq_comm, decide_eq_false_iff_not]; omega)
      go_enter Try.func12, Try.ntmps12
      go_wp2
      go_quiet (fail)
      go_wp2
      go_ret
      exact ⟨ret_bool H.out, below_drewN ((Below.refl _ _).alloc (Nat.le_refl _) _) _⟩
  · have a1 : decide (-274877906944 ≤ y) = false := decide_eq_false c1
    have H := Lib.hid (show false = mayB y m d from by unfold mayB okY; rw [eq_comm, decide_eq_false_iff_not]; omega)
    go_enter Try.func12, Try.ntmps12
    go_wp2
    go_quiet (fail)
    go_wp2
    go_ret
    exact ⟨ret_bool H.out, below_drewN ((Below.refl _ _).alloc (Nat.le_refl _) _) _⟩
theorem give_walk (y m d : Int) (w : World) :
    Calls Try.prog 13 #[.agg #[.int .i64 y, .int .i64 m, .int .i64 d]] w fun e w' => e = .returned (.agg #[.int .i64 y, .int .i64 m, .int .i64 d]) ∧ Below w.heap.size w w' := by
  go_enter Try.func13, Try.ntmps13
  go_wp2
  exact bodyPost_ret (v := .agg #[.int .i64 y, .int .i64 m, .int .i64 d]) (by simp [results, Try.results13, go_sem]) rfl ⟨rfl, ((Below.refl _ _).alloc (Nat.le_refl _) _).alloc (by simp) _⟩
set_option maxHeartbeats 2000000 in
theorem cycles_walk (y m d : Int) (w : World) (hy1 : -9223372036854775808 ≤ y) (hy2 : y ≤ 9223372036854775807) :
    Calls Try.prog 4 #[.agg #[.int .i64 y, .int .i64 m, .int .i64 d]] w fun e w' => e = .returned (.bool true) ∧ Below w.heap.size w w' := by
  by_cases hm : mayB y m d = true
  · by_cases hc : 274877906544 < y
    · have a1 : decide (274877906544 < y) = true := decide_eq_true hc
      go_enter Try.func4, Try.ntmps4
      go_wp2_with (fail)
      refine (may_walk y m d _).mono ?_
      rintro e w1 ⟨rfl, hb1⟩
      have q0 : w1.cell? ⟨w.heap.size, 0, none⟩ = some (.int .i64 y) := ((bcell hb1).1 _ _ (by simp)).trans (World.cell?_alloc_new _ _ _ _)
      go_wp2_with (fail)
      refine (sure_walk _).mono ?_
      rintro e w2 ⟨rfl, hb2⟩
      go_wp2
      go_ret
      exact ⟨rfl, below_trans (below_step (Below.refl _ _) hb1) hb2⟩
    · have a1 : decide (274877906544 < y) = false := decide_eq_false hc
      have hm2 := of_decide_eq_true hm
      obtain ⟨⟨o1, o2⟩, o3, o4, o5, o6⟩ := hm2
      have hd1 := fun w => days_walk y m d w ⟨o1, o2⟩ ⟨o3, o4, o5, o6⟩
      have hd2 := fun w => days_walk (y + 400) m d w ⟨by omega, by omega⟩ ⟨o3, o4, o5, by rw [cyc_len]; exact o6⟩
      rw [cyc_days] at hd2
      have hbd : -110000000000000 ≤ daysC y m d ∧ daysC y m d ≤ 110000000000000 := by
        have := lenC_bd y m
        unfold daysC cumA cumM; split <;> omega
      have HD1 := Lib.hid hd1; clear hd1
      have HD2 := Lib.hid hd2; clear hd2
      have HL := Lib.hid o6; clear o6
      generalize daysC y m d = A at *
      obtain ⟨b1, b2⟩ := hbd
      have t1 : (A + 146097 - A == 146097) = true := by rw [beq_iff_eq]; omega
      have t2 : ((A + 4) % 7 == (A + 146097 + 4) % 7) = true := by rw [beq_iff_eq]; omega
      go_enter Try.func4, Try.ntmps4
      go_wp2_with (fail)
      refine (may_walk y m d _).mono ?_
      rintro e w1 ⟨rfl, hb1⟩
      have z1 : w.heap.size < w1.heap.size := by have := hb1.size; simp at this; omega
      have q0 : w1.cell? ⟨w.heap.size, 0, none⟩ = some (.int .i64 y) := ((bcell hb1).1 _ _ (by simp)).trans (World.cell?_alloc_new _ _ _ _)
      have q1 : w1.cell? ⟨w.heap.size, 1, none⟩ = some (.int .i64 m) := ((bcell hb1).1 _ _ (by simp)).trans (World.cell?_alloc_new _ _ _ _)
      have q2 : w1.cell? ⟨w.heap.size, 2, none⟩ = some (.int .i64 d) := ((bcell hb1).1 _ _ (by simp)).trans (World.cell?_alloc_new _ _ _ _)
      have f1 : w1.frozen? ⟨w.heap.size, 0, none⟩ = false := ((bcell hb1).2 _ _ (by simp)).trans (by simp)
      have hB1 := below_step (Below.refl _ _) hb1
      go_wp2_with (fail)
      refine (give_walk y m d _).mono ?_
      rintro e w2 ⟨rfl, hb2⟩
      have z2 : w.heap.size < w2.heap.size := by have := hb2.size; omega
      have r0 : w2.cell? ⟨w.heap.size, 0, none⟩ = some (.int .i64 y) := ((bcell hb2).1 _ _ z1).trans q0
      have r1 : w2.cell? ⟨w.heap.size, 1, none⟩ = some (.int .i64 m) := ((bcell hb2).1 _ _ z1).trans q1
      have r2 : w2.cell? ⟨w.heap.size, 2, none⟩ = some (.int .i64 d) := ((bcell hb2).1 _ _ z1).trans q2
      have f2 : w2.frozen? ⟨w.heap.size, 0, none⟩ = false := ((bcell hb2).2 _ _ z1).trans f1
      have hB2 := below_trans hB1 hb2
      clear q0 q1 q2 f1 hb1 hb2 hB1
      go_wp2_with (fail)
      refine (HD1.out _).mono ?_
      rintro e w3 ⟨rfl, hb3⟩
      have z3 : w.heap.size < w3.heap.size := by have := hb3.size; omega
      have q0 : w3.cell? ⟨w.heap.size, 0, none⟩ = some (.int .i64 y) := ((bcell hb3).1 _ _ z2).trans r0
      have q1 : w3.cell? ⟨w.heap.size, 1, none⟩ = some (.int .i64 m) := ((bcell hb3).1 _ _ z2).trans r1
      have q2 : w3.cell? ⟨w.heap.size, 2, none⟩ = some (.int .i64 d) := ((bcell hb3).1 _ _ z2).trans r2
      have f3 : w3.frozen? ⟨w.heap.size, 0, none⟩ = false := ((bcell hb3).2 _ _ z2).trans f2
      have hB3 := below_trans hB2 hb3
      clear r0 r1 r2 f2 hb3 hB2
      go_wp2_with (fail)
      refine (give_walk (y + 400) m d _).mono ?_
      rintro e w4 ⟨rfl, hb4⟩
      have hB4 := below_trans (hB3.setCell (by simp) (.int .i64 (y + 400))) hb4
      clear q0 q1 q2 f3 hB3 hb4
      go_wp2_with (fail)
      refine (HD2.out _).mono ?_
      rintro e w5 ⟨rfl, hb5⟩
      have hB5 := below_trans hB4 hb5
      clear hB4 hb5
      go_wp2_with (first | (go_at_call 11; refine (week_walk _ _).mono ?_; rintro e w' ⟨rfl, rfl⟩) | (go_at_call 7; refine (sure_walk _).mono ?_; rintro e w6 ⟨rfl, hb6⟩))
      go_ret
      exact ⟨rfl, below_trans hB5 hb6⟩
  · have hm' : mayB y m d = false := by simpa using hm
    clear hm
    go_enter Try.func4, Try.ntmps4
    go_wp2_with (fail)
    refine (may_walk y m d _).mono ?_
    rintro e w1 ⟨rfl, hb1⟩
    go_wp2_with (fail)
    refine (sure_walk _).mono ?_
    rintro e w2 ⟨rfl, hb2⟩
    go_wp2
    go_ret
    exact ⟨rfl, below_trans (below_step (Below.refl _ _) hb1) hb2⟩
theorem wf_i64 {a : Int} (h : (Lit.int .i64 a).wf = true) : -9223372036854775808 ≤ a ∧ a ≤ 9223372036854775807 := by
  simp only [Lit.wf, Bool.and_eq_true, decide_eq_true_eq] at h
  have e1 : IntKind.i64.min = -9223372036854775808 := by decide
  have e2 : IntKind.i64.max = 9223372036854775807 := by decide
  omega
end
section
open Go.ChangeShapes Go.WideShapes Go.ChangeAt Go.RowKit Go.Joins
set_option linter.unusedVariables false

theorem civilCycles_own : ownKnob Try.prog.godebug = none := by kernel_rfl
set_option maxRecDepth 100000 in
theorem civilCycles_lifted (os : Os) (started : os.Started) (H : Type) (enc : TypeId × Value → H) :
    ReturnsInHanded {} Try.checked os 4 .any (Rows.civilCyclesSpec.pre6 enc Try.prog Try.f4 Rows.civilCyclesRow.domain false) (Rows.civilCyclesSpec.post enc Try.prog Try.f4 false true false false) := by
  refine returnsInHanded_of_change_sized (C := Try.checked) civilCycles_own started (by kernel_rfl) Try.func4
    (ChangeSpec.witness6 (enc := enc) (C := Try.checked) false ⟨#[], #[.agg #[.int .i64 0, .int .i64 0, .int .i64 0]], []⟩ 8 (by kernel_rfl) (by kernel_rfl) (by kernel_rfl) (by kernel_rfl)) ?_
  intro W base args ds gs before hval0 hW hcnd hsz0 _
  have hval : ∀ (j : Nat) t v, Try.f4.params[j]? = some t → args[j]? = some v → Value.okWide Try.prog W .any base t v := hval0
  have hW' := hW
  obtain ⟨p, q, hA0, hV, rfl, hfz, hnd⟩ := hW
  have hA : DataW.TrodAll enc Try.prog W 0 (fun _ => true) true Try.f4.params.toList args.toList ds p := hA0
  rw [Try.params4] at hA hval
  obtain ⟨v0, vs0, d0, ds0, p0, q0, hargs, rfl, rfl, h0, r0⟩ := trodAll_cons hA
  obtain ⟨rfl, rfl, rfl⟩ := trodAll_nil r0
  obtain rfl : args = #[v0] := by cases args; simp_all
  obtain ⟨rfl, rfl⟩ := trodVars_none hV
  obtain ⟨c0, c1, c2, y0, y1, y2, n, rfl, rfl, rfl, hy0, hy1, hy2⟩ := open_agg3 Try.underlying34 (by kernel_rfl) (by kernel_rfl : Try.prog.cellsOf 34 = 3) (hval 0 34 v0 rfl rfl) h0
  obtain ⟨y, e0, rfl, w0⟩ := DataW.trod_int Try.underlying3 hy0
  obtain ⟨m, e1, rfl, w1⟩ := DataW.trod_int Try.underlying3 hy1
  obtain ⟨d, e2, rfl, w2⟩ := DataW.trod_int Try.underlying3 hy2
  simp at e0 e1 e2
  subst e0 e1 e2
  obtain ⟨b1, b2⟩ := wf_i64 w0
  simp only [List.append_nil] at hW'
  clear hA0 hval0 hsz0
  refine (cycles_walk y m d W b1 b2).mono fun e W' ⟨he, bel⟩ => ?_
  subst he
  exact ⟨_, rfl, _, _, _, [], _, [], hW', trodAll_mk1 (shut_bool Try.underlying4 _), (trodAll_cons_mk (shut_agg3 (y0 := (.lit (.int .i64 y), [])) (y1 := (.lit (.int .i64 m), [])) (y2 := (.lit (.int .i64 d), [])) Try.underlying34 (by kernel_rfl) (by kernel_rfl) (shut_int Try.underlying3 w0) (shut_int Try.underlying3 w1) (shut_int Try.underlying3 w2)) trodAll_mk0), rfl, bel.frame _, fun h => by cases h⟩
theorem civilCycles_holds : Rows.CivilCyclesSaid :=
  OpenClaim.holds_of_wide 4 Try.f4 rfl rfl rfl rfl rfl rfl rfl ⟨rfl, rfl, rfl, rfl, rfl⟩ rfl rfl rfl rfl rfl (by kernel_rfl) Try.func4 (by kernel_rfl)
    (of_decide_eq_true (by kernel_rfl)) (by unfold Func.isWrapper; first | (rw [if_pos (by decide +kernel)]; kernel_rfl) | (rw [if_neg (by decide +kernel)]; exact ⟨rfl, rfl⟩))
    (fun os started H enc _ => civilCycles_lifted os started H enc)
#print axioms civilCycles_holds
end
end Go.Proofs.Ytfonjpcofjcanaa
