/- Of what stays admitted with more that is right; a contact's filters, walked. -/
import Derived.Test.YtjffciejoahegaaDoorAdmit
namespace Go.Proofs.YtjffciejoahegaaDoor
open Go.RowKit
theorem bitF_pow (k s : Int) : bitF k s = 0 ∨ ∃ j : Nat, j ≤ 4 ∧ bitF k s = ((2 ^ j : Nat) : Int) := by
  unfold bitF badF
  repeat' split
  all_goals first
    | exact Or.inl rfl
    | exact Or.inr ⟨0, by decide, rfl⟩
    | exact Or.inr ⟨1, by decide, rfl⟩
    | exact Or.inr ⟨2, by decide, rfl⟩
    | exact Or.inr ⟨3, by decide, rfl⟩
    | exact Or.inr ⟨4, by decide, rfl⟩
theorem and_zero (o : Int) : bits .and .i64 0 o = 0 := by
  show IntKind.i64.wrap (BitVec.ofInt 64 0 &&& BitVec.ofInt 64 o).toNat = 0
  rw [show BitVec.ofInt 64 0 = 0#64 by decide, BitVec.zero_and]
  decide
theorem optN_pow (o : Int) (j : Nat) (hj : j ≤ 8) : optN o ((2 ^ j : Nat) : Int) = !bitAt o ((2 ^ j : Nat) : Int) := by
  unfold optN
  rw [and_pow o j hj]
  have hp : ((2 ^ j : Nat) : Int) ≠ 0 := by exact_mod_cast Nat.ne_of_gt (Nat.two_pow_pos j)
  cases bitAt o ((2 ^ j : Nat) : Int)
  · simp
  · simp only [if_true, Bool.not_true, beq_eq_false_iff_ne]; exact hp
theorem optN_or (o p k s : Int) (h : optN (bits .or .i64 o p) (bitF k s) = true) : optN o (bitF k s) = true := by
  rcases bitF_pow k s with e | ⟨j, hj, e⟩
  · rw [e]; unfold optN; rw [and_zero]; rfl
  · rw [e] at h ⊢
    rw [optN_pow _ _ (by omega), bitAt_or _ _ _ (by omega)] at h
    rw [optN_pow _ _ (by omega)]
    cases hb : bitAt o ((2 ^ j : Nat) : Int)
    · rfl
    · rw [hb] at h; simp at h
theorem held_or (k fo p : Int) (b : Bool) (i : Nat) (hi : i ≤ 8) (h : heldF k fo b i = false) : heldF k (bits .or .i64 fo p) b i = false := by
  unfold heldF at h ⊢
  rw [bitAt_or _ _ _ hi]
  generalize decide (k = 4) = q at h ⊢
  generalize bitAt fo ((2 ^ i : Nat) : Int) = x at h ⊢
  generalize bitAt p ((2 ^ i : Nat) : Int) = y
  revert h
  cases b <;> cases q <;> cases x <;> cases y <;> decide
theorem held_le (k fo : Int) (b b' : Bool) (i : Nat) (hb : b' = true → b = true) (h : heldF k fo b i = false) : heldF k fo b' i = false := by
  unfold heldF at h ⊢
  cases b' <;> simp_all
theorem held_ff (k fo : Int) (i : Nat) : heldF k fo false i = false := by simp [heldF]
theorem first_cons_zero (k fo : Int) (b : Bool) (r : List Bool) (i : Nat) : firstF k fo (b :: r) (i + 1) = 0 ↔ heldF k fo b (i + 1) = false ∧ firstF k fo r (i + 2) = 0 := by
  rw [firstF]
  split
  · rename_i h; simp [h]; omega
  · rename_i h; simp at h; simp [h]
theorem adm_zero (c : Cs) : admF c = 0 ↔ heldF c.k c.fo (!c.en) 1 = false ∧ heldF c.k c.fo (!c.ti) 2 = false ∧ heldF c.k c.fo c.bl 3 = false ∧ heldF c.k c.fo c.dn 4 = false ∧ heldF c.k c.fo (c.fl && (c.k == 0 || c.k == 1)) 5 = false ∧ heldF c.k c.fo (c.ac && c.k == 0) 6 = false ∧ heldF c.k c.fo (optN c.op (bitF c.k c.s)) 7 = false := by
  unfold admF holdsF
  rw [first_cons_zero, first_cons_zero, first_cons_zero, first_cons_zero, first_cons_zero, first_cons_zero, first_cons_zero]
  simp [firstF]
/-- What is admitted stays admitted. -/
def Rel (c c' : Cs) : Prop := admF c = 0 → admF c' = 0
section
variable (k s op fo p : Int) (en ti bl dn fl ac : Bool)
theorem rel_en : Rel ⟨k, s, en, ti, bl, dn, fl, ac, op, fo⟩ ⟨k, s, true, ti, bl, dn, fl, ac, op, fo⟩ := by
  unfold Rel; rw [adm_zero, adm_zero]; rintro ⟨a1, a2, a3, a4, a5, a6, a7⟩; exact ⟨held_ff _ _ _, a2, a3, a4, a5, a6, a7⟩
theorem rel_ti : Rel ⟨k, s, en, ti, bl, dn, fl, ac, op, fo⟩ ⟨k, s, en, true, bl, dn, fl, ac, op, fo⟩ := by
  unfold Rel; rw [adm_zero, adm_zero]; rintro ⟨a1, a2, a3, a4, a5, a6, a7⟩; exact ⟨a1, held_ff _ _ _, a3, a4, a5, a6, a7⟩
theorem rel_bl : Rel ⟨k, s, en, ti, bl, dn, fl, ac, op, fo⟩ ⟨k, s, en, ti, false, dn, fl, ac, op, fo⟩ := by
  unfold Rel; rw [adm_zero, adm_zero]; rintro ⟨a1, a2, a3, a4, a5, a6, a7⟩; exact ⟨a1, a2, held_ff _ _ _, a4, a5, a6, a7⟩
theorem rel_dn : Rel ⟨k, s, en, ti, bl, dn, fl, ac, op, fo⟩ ⟨k, s, en, ti, bl, false, fl, ac, op, fo⟩ := by
  unfold Rel; rw [adm_zero, adm_zero]; rintro ⟨a1, a2, a3, a4, a5, a6, a7⟩; exact ⟨a1, a2, a3, held_ff _ _ _, a5, a6, a7⟩
theorem rel_fl : Rel ⟨k, s, en, ti, bl, dn, fl, ac, op, fo⟩ ⟨k, s, en, ti, bl, dn, false, ac, op, fo⟩ := by
  unfold Rel; rw [adm_zero, adm_zero]; rintro ⟨a1, a2, a3, a4, a5, a6, a7⟩; exact ⟨a1, a2, a3, a4, held_ff _ _ _, a6, a7⟩
theorem rel_ac : Rel ⟨k, s, en, ti, bl, dn, fl, ac, op, fo⟩ ⟨k, s, en, ti, bl, dn, fl, false, op, fo⟩ := by
  unfold Rel; rw [adm_zero, adm_zero]; rintro ⟨a1, a2, a3, a4, a5, a6, a7⟩; exact ⟨a1, a2, a3, a4, a5, held_ff _ _ _, a7⟩
theorem rel_op : Rel ⟨k, s, en, ti, bl, dn, fl, ac, op, fo⟩ ⟨k, s, en, ti, bl, dn, fl, ac, bits .or .i64 op p, fo⟩ := by
  unfold Rel; rw [adm_zero, adm_zero]; rintro ⟨a1, a2, a3, a4, a5, a6, a7⟩; exact ⟨a1, a2, a3, a4, a5, a6, held_le _ _ _ _ _ (optN_or op p k s) a7⟩
theorem rel_fo : Rel ⟨k, s, en, ti, bl, dn, fl, ac, op, fo⟩ ⟨k, s, en, ti, bl, dn, fl, ac, op, bits .or .i64 fo p⟩ := by
  unfold Rel; rw [adm_zero, adm_zero]; rintro ⟨a1, a2, a3, a4, a5, a6, a7⟩
  exact ⟨held_or _ _ _ _ _ (by decide) a1, held_or _ _ _ _ _ (by decide) a2, held_or _ _ _ _ _ (by decide) a3, held_or _ _ _ _ _ (by decide) a4, held_or _ _ _ _ _ (by decide) a5, held_or _ _ _ _ _ (by decide) a6, held_or _ _ _ _ _ (by decide) a7⟩
end
theorem adm_all (k s : Int) : (admF ⟨k, s, true, true, false, false, false, false, 31, 0⟩ == 0) = (bitF k s != 0) := by
  have h := adm_zero ⟨k, s, true, true, false, false, false, false, 31, 0⟩
  simp only [Bool.not_true, Bool.false_and, held_ff, true_and] at h
  have h7 : heldF k 0 (optN 31 (bitF k s)) 7 = optN 31 (bitF k s) := by simp [heldF, bitAt]
  rw [h7] at h
  have e : optN 31 (bitF k s) = (bitF k s == 0) := by
    rcases bitF_pow k s with e | ⟨j, hj, e⟩
    · rw [e]; decide
    · rw [e]
      rcases (by omega : j = 0 ∨ j = 1 ∨ j = 2 ∨ j = 3 ∨ j = 4) with rfl | rfl | rfl | rfl | rfl <;> decide
  rw [e] at h
  by_cases hb : bitF k s = 0
  · rw [hb] at h ⊢
    have : ¬ admF ⟨k, s, true, true, false, false, false, false, 31, 0⟩ = 0 := by rw [h]; simp
    simp [this]
  · have : admF ⟨k, s, true, true, false, false, false, false, 31, 0⟩ = 0 := by rw [h]; simpa using hb
    simp [this, hb]
def reachF (en ti : Bool) (op k s : Int) : Int := if en = false then 1 else if ti = false then 2 else if optN op (bitF k s) = true then 3 else 0
theorem reach_or (en ti : Bool) (op p k s : Int) (h : reachF en ti op k s = 0) : reachF en ti (bits .or .i64 op p) k s = 0 := by
  unfold reachF at h ⊢
  split at h; · omega
  rename_i h1
  split at h; · omega
  rename_i h2
  split at h; · omega
  rename_i h3
  rw [if_neg h1, if_neg h2, if_neg (fun h => h3 (optN_or _ _ _ _ h))]
set_option maxHeartbeats 1000000 in
theorem reaches_walk (en ti : Bool) (op : Int) (c : Cs) (w : World) : Calls Tryd.prog 12 #[.agg #[.bool en, .bool ti, .int .i64 op], .agg c.cells] w fun e w' => e = .returned (.int .i64 (reachF en ti op c.k c.s)) ∧ Below w.heap.size w w' := by
  obtain ⟨k, s, een, tti, bl, dn, fl, ac, cop, fo⟩ := c
  unfold Cs.cells reachF
  dsimp only
  have HB := Lib.hid (bit_walk k s)
  have B0 := below_al (below_al (Below.refl w.heap.size w) (.cells #[.bool en, .bool ti, .int .i64 op] 36)) (.cells #[.int .i64 k, .int .i64 s, .bool een, .bool tti, .bool bl, .bool dn, .bool fl, .bool ac, .int .i64 cop, .int .i64 fo] 24)
  cases en
  · go_enter Tryd.func12, Tryd.ntmps12
    go_wp2
    go_ret
    exact ⟨rfl, B0⟩
  cases ti
  · go_enter Tryd.func12, Tryd.ntmps12
    go_wp2
    go_ret
    exact ⟨rfl, B0⟩
  cases ho : optN op (bitF k s)
  all_goals
    unfold optN at ho
    go_enter Tryd.func12, Tryd.ntmps12
    go_wp2_with (fail)
    go_quiet (first | (go_at_call 9; refine Calls.quiet_of_same (v := .int .i64 (bitF k s)) ((HB.out _).mono (fun _ _ h => ⟨h.1, h.2.symm⟩))))
    go_wp2
    go_ret
    exact ⟨rfl, below_drewN B0 _⟩
end Go.Proofs.YtjffciejoahegaaDoor
