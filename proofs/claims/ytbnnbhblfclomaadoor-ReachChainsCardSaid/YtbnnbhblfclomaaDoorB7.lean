/- The document's check. -/
import Derived.Test.YtbnnbhblfclomaaDoorB6
namespace Go.Proofs.YtbnnbhblfclomaaDoor
open Go.RowKit
set_option linter.unusedSimpArgs false
set_option linter.unusedVariables false
set_option maxRecDepth 100000 in
set_option maxHeartbeats 4000000 in
/-- The document's check. -/
theorem checkD_walk (v : Value) (D : List Dp) (n of_ : Int) (w : World) (hD : RdD w v w.heap.size D) (hl : D.length ≤ 60) :
    Calls Tryd.prog 30 #[v, .int .i64 n, .int .i64 of_] w fun x w' => x = .returned (.int .i64 (checkE D n of_)) ∧ w' = w := by
  obtain ⟨A, cap, rfl⟩ := hD.form
  have HD := Lib.hid hD
  have hk : ¬ (4096 : Int) < (D.length : Int) := by omega
  have key : ∀ E : Int, checkE D n of_ = E → Calls Tryd.prog 30 #[.slice A D.length cap, .int .i64 n, .int .i64 of_] w fun x w' => x = .returned (.int .i64 E) ∧ w' = w := by
    intro E hE
    have HE := Lib.hid hE
    clear hE hD
    go_enter Tryd.func30, Tryd.ntmps30
    go_upto_region 4 with (fail)
    go_loopw [7] (fun iv wr => ∃ k : Nat, iv = .int .i64 k ∧ k ≤ D.length ∧ (∀ j, j < k → awayD n (D.getD j dp0) = false) ∧ wr = w) (fun iv _ => D.length - (intOf iv).toNat)
    case atStart => exact ⟨0, rfl, Nat.zero_le _, fun j hj => by omega, rfl⟩
    case round =>
      obtain ⟨k, rfl, hk, hno, rfl⟩ := hrel
      have k0 : (0 : Int) ≤ k := by omega
      have HN := Lib.hid hno
      clear hno
      by_cases hkd : k < D.length
      · have hkd' : (k : Int) < (D.length : Int) := by omega
        obtain ⟨g, o, rfl, hg, c0, c1, c2⟩ := HD.out.cell hkd
        have z0 := World.block_lt_of_cell? _ _ c0
        have hmem : D.getD k dp0 ∈ D := by rw [List.getD_eq_getElem?_getD, List.getElem?_eq_getElem hkd]; exact List.getElem_mem _
        have HBAD := Lib.hid (show awayD n (D.getD k dp0) = true → E = 5 from fun h => by
          rw [← HE.out]
          unfold checkE
          rw [if_neg (by omega), if_pos]
          rw [Bool.or_eq_true, Bool.or_eq_true]
          exact .inr (.inr (List.any_eq_true.2 ⟨_, hmem, h⟩)))
        have HNX := Lib.hid (show awayD n (D.getD k dp0) = false → ∀ j, j < k + 1 → awayD n (D.getD j dp0) = false from fun h j hj => by
          by_cases h2 : j = k
          · subst h2; exact h
          · exact HN.out j (by omega))
        generalize D.getD k dp0 = d at *
        obtain ⟨a, b, c⟩ := d
        dsimp only at c0 c1 c2
        have haw : awayD n ⟨a, b, c⟩ = (decide (a < 0) || (decide (n ≤ a) || (decide (b < 0) || decide (n ≤ b)))) := rfl
        rw [haw] at HBAD HNX
        clear hmem haw
        by_cases h1 : a < 0
        · have hE := HBAD.out (by rw [decide_eq_true h1]; rfl)
          subst hE
          go_wp2_with (fail)
          go_ret
          exact ⟨rfl, by first | rfl | trivial⟩
        · by_cases h2 : n ≤ a
          · have hE := HBAD.out (by rw [decide_eq_true h2, Bool.true_or, Bool.or_true])
            subst hE
            go_wp2_with (fail)
            go_ret
            exact ⟨rfl, by first | rfl | trivial⟩
          · by_cases h3 : b < 0
            · have hE := HBAD.out (by rw [decide_eq_true h3, Bool.true_or, Bool.or_true, Bool.or_true])
              subst hE
              go_wp2_with (fail)
              go_ret
              exact ⟨rfl, by first | rfl | trivial⟩
            · by_cases h4 : n ≤ b
              · have hE := HBAD.out (by rw [decide_eq_true h4, Bool.or_true, Bool.or_true, Bool.or_true])
                subst hE
                go_wp2_with (fail)
                go_ret
                exact ⟨rfl, by first | rfl | trivial⟩
              · have HN2 := Lib.hid (HNX.out (by rw [decide_eq_false h1, decide_eq_false h2, decide_eq_false h3, decide_eq_false h4]; rfl))
                go_wp2_with (fail)
                go_roundw
                case rel => exact ⟨k + 1, by go_num, by omega, HN2.out, by first | rfl | trivial⟩
                case measure => simp [intOf]; omega
      · have hkd' : ¬ (k : Int) < (D.length : Int) := by omega
        have hnone : D.any (awayD n) = false := by
          refine Bool.eq_false_iff.2 fun h => ?_
          obtain ⟨e, he, ha⟩ := List.any_eq_true.1 h
          obtain ⟨j, hj, rfl⟩ := List.mem_iff_getElem.1 he
          have := HN.out j (by omega)
          rw [List.getD_eq_getElem?_getD, List.getElem?_eq_getElem hj, Option.getD_some] at this
          rw [this] at ha; cases ha
        have HE2 := Lib.hid (show E = if (decide (of_ < 0) || decide (n ≤ of_)) = true then 5 else 0 by
          rw [← HE.out]; unfold checkE; rw [if_neg (by omega), hnone, Bool.or_false])
        clear hnone
        by_cases h1 : of_ < 0
        · have hE : E = 5 := by rw [HE2.out, if_pos (by rw [decide_eq_true h1]; rfl)]
          subst hE
          go_wp2_with (fail)
          go_ret
          exact ⟨rfl, by first | rfl | trivial⟩
        · by_cases h2 : n ≤ of_
          · have hE : E = 5 := by rw [HE2.out, if_pos (by rw [decide_eq_true h2, Bool.or_true])]
            subst hE
            go_wp2_with (fail)
            go_ret
            exact ⟨rfl, by first | rfl | trivial⟩
          · have hE : E = 0 := by rw [HE2.out, if_neg (by rw [decide_eq_false h1, decide_eq_false h2]; decide)]
            subst hE
            go_wp2_with (fail)
            go_ret
            exact ⟨rfl, by first | rfl | trivial⟩
  exact key _ rfl
end Go.Proofs.YtbnnbhblfclomaaDoor
