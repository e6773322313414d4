/- Of the state behind a result, and what must come whatever the input is. -/
import Derived.Test.YtimibkjjcnpkjaaDoorState
namespace Go.Proofs.YtimibkjjcnpkjaaDoor
open Go.RowKit
theorem resF_ok {S : St} {m st tm : Int} (hs : okS S m) (hr : okR st tm) : okS (resF S m st tm).1 m ∧ (resF S m st tm).1.s = st ∧ (resF S m st tm).1.t = (if st = S.s then S.t else tm) := by
  have h := hs
  unfold okS at h
  obtain ⟨o1, o2, o3, o4, o5, o6, o7⟩ := h
  have hr' := hr
  unfold okR at hr'
  obtain ⟨r1, r2, r3, r4⟩ := hr'
  unfold resF
  rw [if_pos ⟨hs, hr⟩]
  unfold resG
  by_cases h0 : st = 0
  · rw [if_pos h0]
    by_cases h1 : S.s = 0
    · rw [if_pos h1]; exact ⟨hs, (show S.s = st by omega), (by show S.t = _; rw [if_pos (by omega)])⟩
    · rw [if_neg h1]
      refine ⟨?_, (show (0 : Int) = st by omega), (by show tm = _; rw [if_neg (by omega)])⟩
      exact ⟨o1, o2, Int.le_refl _, (show (0 : Int) ≤ 3 by decide), r3, r4, Or.inl ⟨rfl, rfl, rfl, rfl⟩⟩
  rw [if_neg h0]
  by_cases hp : S.h = true ∧ S.s ≠ 0
  · rw [if_pos hp]
    by_cases he : st = S.s
    · rw [if_pos he]; exact ⟨hs, he.symm, (by show S.t = _; rw [if_pos he])⟩
    · rw [if_neg he]
      refine ⟨?_, rfl, (by show tm = _; rw [if_neg he])⟩
      rcases o7 with h | h | h
      · exact absurd h.2.1 hp.2
      · exact ⟨o1, o2, r1, r2, r3, r4, Or.inr (Or.inl ⟨rfl, h0, h.2.2.1, rfl⟩)⟩
      · exact absurd hp.1 (by rw [h.1]; simp)
  · rw [if_neg hp]
    have hf : S.s ≠ 0 → 1 ≤ S.a ∧ S.a < m := fun h => by
      rcases o7 with g | g | g
      · exact absurd g.2.1 h
      · exact absurd ⟨g.1, h⟩ hp
      · exact ⟨g.2.2.1, g.2.2.2.1⟩
    by_cases hlt : (if S.s = 0 then 1 else S.a + 1) < m
    · rw [if_pos hlt]
      refine ⟨?_, rfl, rfl⟩
      refine ⟨o1, o2, r1, r2, ?_, ?_, Or.inr (Or.inr ⟨rfl, h0, ?_, hlt, rfl⟩)⟩
      · show 0 ≤ (if st = S.s then S.t else tm); split <;> omega
      · show (if st = S.s then S.t else tm) ≤ _; split <;> omega
      · show 1 ≤ (if S.s = 0 then 1 else S.a + 1)
        by_cases h1 : S.s = 0
        · rw [if_pos h1]; omega
        · rw [if_neg h1]; have := hf h1; omega
    · rw [if_neg hlt]
      refine ⟨?_, rfl, rfl⟩
      refine ⟨o1, o2, r1, r2, ?_, ?_, Or.inr (Or.inl ⟨rfl, h0, ?_, rfl⟩)⟩
      · show 0 ≤ (if st = S.s then S.t else tm); split <;> omega
      · show (if st = S.s then S.t else tm) ≤ _; split <;> omega
      · show (if S.s = 0 then 1 else S.a + 1) = m
        by_cases h1 : S.s = 0
        · rw [if_pos h1] at hlt ⊢; omega
        · rw [if_neg h1] at hlt ⊢; have := hf h1; omega
set_option maxHeartbeats 2000000 in
theorem sure_walk (w : World) : Calls Tryd.prog 10 #[] w fun e w' => e = .returned (.bool true) ∧ Below w.heap.size w w' := by
  have e1 : resF ⟨0, true, 1, 0, 0⟩ 2 2 5 = (⟨2, false, 1, 0, 5⟩, 1) := by simp [resF, okS, okR, resG]
  have e2 : resF ⟨2, false, 1, 0, 5⟩ 2 2 6 = (⟨2, true, 2, 2, 5⟩, 2) := by simp [resF, okS, okR, resG]
  have e3 : resF ⟨2, true, 2, 2, 5⟩ 2 1 7 = (⟨1, true, 2, 1, 7⟩, 5) := by simp [resF, okS, okR, resG]
  have e4 : resF ⟨1, true, 2, 1, 7⟩ 2 0 8 = (⟨0, true, 1, 0, 8⟩, 4) := by simp [resF, okS, okR, resG]
  have a1 := fun w => result_walk 0 true 1 0 0 2 2 5 w
  have a2 := fun w => result_walk 2 false 1 0 5 2 2 6 w
  have a3 := fun w => result_walk 2 true 2 2 5 2 1 7 w
  have a4 := fun w => result_walk 1 true 2 1 7 2 0 8 w
  rw [e1] at a1; rw [e2] at a2; rw [e3] at a3; rw [e4] at a4
  unfold stV at a1 a2 a3 a4
  dsimp only at a1 a2 a3 a4
  have A1 := Lib.hid a1; have A2 := Lib.hid a2; have A3 := Lib.hid a3; have A4 := Lib.hid a4
  clear a1 a2 a3 a4 e1 e2 e3 e4
  go_enter Tryd.func10, Tryd.ntmps10
  go_wp2_with (fail)
  refine (start_walk _).mono ?_
  rintro e w1 ⟨rfl, hb1⟩
  go_wp2_with (fail)
  refine (A1.out _).mono ?_
  rintro e w2 ⟨rfl, hb2⟩
  have hB2 := below_step hb1 hb2
  clear hb1 hb2
  go_wp2_with (fail)
  refine (A2.out _).mono ?_
  rintro e w3 ⟨rfl, hb3⟩
  have p3 := (Blk.new w2 25 #[.int .i64 2, .bool false, .int .i64 1, .int .i64 0, .int .i64 5]).below hb3
  have hB3 := below_step hB2 hb3
  have z3 := p3.lt
  clear hb3 hB2
  go_wp2_with (fail)
  refine (A3.out _).mono ?_
  rintro e w4 ⟨rfl, hb4⟩
  have p4 := (p3.alloc _).below hb4
  have q4 := (Blk.new w3 25 #[.int .i64 2, .bool true, .int .i64 2, .int .i64 2, .int .i64 5]).below hb4
  have hB4 := below_step hB3 hb4
  have z4 := p4.lt
  have z4' := q4.lt
  clear hb4 hB3 p3
  go_wp2_with (fail)
  refine (A4.out _).mono ?_
  rintro e w5 ⟨rfl, hb5⟩
  have p5 := (p4.alloc _).below hb5
  have q5 := (q4.alloc _).below hb5
  have hB5 := below_step hB4 hb5
  have z5 := p5.lt
  have z5' := q5.lt
  clear hb5 hB4 p4 q4
  obtain ⟨⟨c0, c1, c2, c3, c4⟩, _, _⟩ := blk5 q5
  have P5 := Lib.hid p5; clear p5 q5
  go_wp2_with (fail)
  refine (prob_walk _ _ _ _ _ _).mono ?_
  rintro e w6 ⟨rfl, hb6⟩
  have p6 := (P5.out.alloc _).below hb6
  have hB6 := below_step hB5 hb6
  obtain ⟨⟨d0, d1, d2, d3, d4⟩, _, _⟩ := blk5 p6
  clear p6 hb6 hB5 c0 c1 c2 c3 c4
  go_wp2_with (fail)
  refine (prob_walk _ _ _ _ _ _).mono ?_
  rintro e w7 ⟨rfl, hb7⟩
  go_wp2
  go_ret
  exact ⟨rfl, below_trans hB6 hb7⟩
end Go.Proofs.YtimibkjjcnpkjaaDoor
