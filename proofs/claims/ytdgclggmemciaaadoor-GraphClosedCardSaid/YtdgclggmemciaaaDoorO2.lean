/- What must come whatever the input is. -/
import Derived.Test.YtdgclggmemciaaaDoorO1
namespace Go.Proofs.YtdgclggmemciaaaDoor
open Go.RowKit
set_option linter.unusedSimpArgs false
set_option linter.unusedVariables false
def sureE : Ways := [(2, 0), (0, 1)]
theorem sure_gre {o : List Nat} (h : Gre sureE 3 o) : o = [] ∨ o = [2] ∨ o = [2, 0] ∨ o = [2, 0, 1] := by
  induction h with
  | nil => exact .inl rfl
  | snoc h hf hl ih =>
    rename_i o x
    obtain ⟨h1, h2, h3⟩ := hf
    have m1 := h3 2
    have m2 := h3 0
    unfold sureE at m1 m2
    rcases ih with rfl | rfl | rfl | rfl
    · right; left
      have : x = 0 ∨ x = 1 ∨ x = 2 := by omega
      rcases this with rfl | rfl | rfl <;> simp_all
    · right; right; left
      have : x = 0 ∨ x = 1 ∨ x = 2 := by omega
      rcases this with rfl | rfl | rfl <;> simp_all
    · right; right; right
      have : x = 0 ∨ x = 1 ∨ x = 2 := by omega
      rcases this with rfl | rfl | rfl <;> simp_all
    · exfalso
      have : x = 0 ∨ x = 1 ∨ x = 2 := by omega
      rcases this with rfl | rfl | rfl <;> simp_all
theorem sure_sorted {o : List Nat} {dep : Nat → Nat} (h : Sorted sureE 3 o dep) : o = [2, 0, 1] ∧ dep 0 = 1 ∧ dep 1 = 2 ∧ dep 2 = 0 := by
  have ho : o = [2, 0, 1] := by
    rcases sure_gre h.gre with rfl | rfl | rfl | rfl
    · exact absurd (show Free sureE 3 [] 2 from ⟨by decide, by simp, fun a ha => by simp [sureE] at ha⟩) (h.stuck 2)
    · exact absurd (show Free sureE 3 [2] 0 from ⟨by decide, by simp, fun a ha => by simp [sureE] at ha; simp [ha]⟩) (h.stuck 0)
    · exact absurd (show Free sureE 3 [2, 0] 1 from ⟨by decide, by simp, fun a ha => by simp [sureE] at ha; simp [ha]⟩) (h.stuck 1)
    · rfl
  subst ho
  have e1 : (2, 0) ∈ sureE := by simp [sureE]
  have e2 : (0, 1) ∈ sureE := by simp [sureE]
  have u1 := h.dp.up 2 0 e1 (by simp)
  have u2 := h.dp.up 0 1 e2 (by simp)
  have d2 : dep 2 = 0 := by
    rcases h.dp.by' 2 with c | ⟨a, e, _, _⟩
    · exact c
    · simp [sureE] at e
  have d0 : dep 0 = 1 := by
    rcases h.dp.by' 0 with c | ⟨a, e, _, c⟩
    · omega
    · simp [sureE] at e; subst e; omega
  have d1 : dep 1 = 2 := by
    rcases h.dp.by' 1 with c | ⟨a, e, _, c⟩
    · omega
    · simp [sureE] at e; subst e; omega
  exact ⟨rfl, d0, d1, d2⟩
theorem sure_pairs (w : World) (t : TypeId) : Pairs (w.alloc (.cells #[.int .i64 2, .int .i64 0, .int .i64 0, .int .i64 1] t)) (.slice (some ⟨w.heap.size, 0, none⟩) 2 2) (castE sureE) := by
  have hb := Blk.new w t #[.int .i64 2, .int .i64 0, .int .i64 0, .int .i64 1]
  refine ⟨_, 2, rfl, by decide, fun _ => ⟨_, rfl, hb.lt, fun j hj => ?_⟩⟩
  have hj' : j < 2 := hj
  have : j = 0 ∨ j = 1 := by omega
  rcases this with rfl | rfl
  · exact ⟨by rw [add_lit0, hb.cell]; rfl, by rw [add_lit0]; show World.cell? _ ⟨w.heap.size, 1, none⟩ = _; rw [hb.cell]; rfl⟩
  · exact ⟨by rw [add_lit0, hb.cell]; rfl, by rw [add_lit0]; show World.cell? _ ⟨w.heap.size, 3, none⟩ = _; rw [hb.cell]; rfl⟩
theorem reads_new (w : World) (l : List Nat) (a b c : Nat) (hl : l = [a, b, c]) : Reads (w.alloc (.cells #[.int .i64 (a : Int), .int .i64 (b : Int), .int .i64 (c : Int)] 3)) (.slice (some ⟨w.heap.size, 0, none⟩) 3 3) l := by
  subst hl
  have hb := Blk.new w 3 #[.int .i64 (a : Int), .int .i64 (b : Int), .int .i64 (c : Int)]
  refine ⟨_, 3, rfl, .inr ⟨_, 0, rfl, hb.lt, fun j x hj => ?_⟩⟩
  have hlt : j < 3 := (List.getElem?_eq_some_iff.1 hj).1
  rw [hb.cell]
  have : j = 0 ∨ j = 1 ∨ j = 2 := by omega
  rcases this with rfl | rfl | rfl
  · simp at hj; subst hj; rfl
  · simp at hj; subst hj; rfl
  · simp at hj; subst hj; rfl
theorem reads_natsA {w : World} {g n : Nat} {f : Nat → Nat} (h : Blk w g 3 (natsA n f)) : Reads w (.slice (some ⟨g, 0, none⟩) n n) ((List.range n).map f) := by
  refine ⟨_, n, by simp, .inr ⟨g, 0, rfl, h.lt, fun j x hj => ?_⟩⟩
  have hlt : j < n := by have := (List.getElem?_eq_some_iff.1 hj).1; simpa using this
  rw [h.cell, Nat.zero_add, natsA_get f hlt]
  simp [hlt] at hj
  rw [hj]
def TrueSaid (W : World) (x : Ending) (w' : World) : Prop := x = .returned (.bool true) ∧ Below W.heap.size W w'
set_option maxRecDepth 100000 in
set_option maxHeartbeats 1000000 in
theorem sure_walk (w : World) : Calls Tryd.prog 8 #[] w (TrueSaid w) := by
  have hE : ∀ e, e ∈ sureE → e.1 < 3 ∧ e.2 < 3 := by decide
  have OK := Lib.hid (fun W v h => order_ok 3 v sureE W h hE (by decide) (by decide))
  have DK := Lib.hid (fun W v h => depths_ok 3 v sureE W h hE (by decide) (by decide))
  clear hE
  go_enter Tryd.func8, Tryd.ntmps8
  go_wp2_with (fail)
  have B1 := below_al (Below.refl w.heap.size w) (.cells #[.int .i64 2, .int .i64 0, .int .i64 0, .int .i64 1] 40)
  refine (OK.out _ _ (sure_pairs w 40)).mono ?_
  rintro x w2 ⟨⟨o, dep, hs, hr⟩, B2⟩
  obtain ⟨rfl, _⟩ := sure_sorted hs
  rcases hr with ⟨_, ov, rfl, ho⟩ | ⟨h, _⟩
  rotate_left
  · exact absurd rfl h
  have B3 := below_trans B1 B2
  have HR := Lib.hid (Reads.of_owns ho)
  clear hs ho
  go_wp2_with (fail)
  have B4 := below_al B3 (.cells #[.int .i64 2, .int .i64 0, .int .i64 0, .int .i64 1] 40)
  have B4' := below_al (Below.refl w2.heap.size w2) (.cells #[.int .i64 2, .int .i64 0, .int .i64 0, .int .i64 1] 40)
  refine (DK.out _ _ (sure_pairs w2 40)).mono ?_
  rintro x w5 ⟨⟨o, dep, hs, hr⟩, B5⟩
  obtain ⟨rfl, h0, h1, h2⟩ := sure_sorted hs
  rcases hr with ⟨_, gd, rfl, _, hb⟩ | ⟨h, _⟩
  rotate_left
  · exact absurd rfl h
  have B6 := below_trans B4 B5
  have B6' := below_trans B4' B5
  have hrd := reads_natsA hb
  have hmap : (List.range 3).map dep = [1, 2, 0] := by
    show [dep 0, dep 1, dep 2] = _
    rw [h0, h1, h2]
  rw [hmap] at hrd
  have HR2 := Lib.hid (HR.out.below B6')
  have HD := Lib.hid hrd
  clear hs hb hrd hmap h0 h1 h2
  go_wp2_with (fail)
  have B7 := below_al (Below.refl w5.heap.size w5) (.cells #[.int .i64 2, .int .i64 0, .int .i64 1] 3)
  refine (ints_walk ov _ [2, 0, 1] [2, 0, 1] _ (HR2.out.below B7) (reads_new w5 _ 2 0 1 rfl) (by decide) (by decide)).mono ?_
  rintro x w8 ⟨rfl, q, rfl⟩
  have B8 := below_drewN B7 q
  have HD8 := Lib.hid (HD.out.below B8)
  have B9 := below_trans B6 B8
  rw [decide_eq_true (rfl : ([2, 0, 1] : List Nat) = [2, 0, 1])]
  generalize (w5.alloc (.cells #[.int .i64 2, .int .i64 0, .int .i64 1] 3)).drewN q = w10 at *
  go_wp2_with (fail)
  have B11 := below_al (Below.refl w10.heap.size w10) (.cells #[.int .i64 1, .int .i64 2, .int .i64 0] 3)
  refine (ints_walk _ _ [1, 2, 0] [1, 2, 0] _ (HD8.out.below B11) (reads_new w10 _ 1 2 0 rfl) (by decide) (by decide)).mono ?_
  rintro x w12 ⟨rfl, q2, rfl⟩
  have B12 := below_trans B9 (below_drewN B11 q2)
  rw [decide_eq_true (rfl : ([1, 2, 0] : List Nat) = [1, 2, 0])]
  go_wp2
  go_ret
  exact ⟨rfl, B12⟩
end Go.Proofs.YtdgclggmemciaaaDoor
