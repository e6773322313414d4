/- Bits of numbers, and the program's option of a kind and a status, walked. -/
import Derived.Test.YtjffciejoahegaaDoorBase
import Derived.Laws.BitsLemmas
namespace Go.Proofs.YtjffciejoahegaaDoor
open Go.RowKit
/-- The bit of weight p of a number. -/
def bitAt (o p : Int) : Bool := decide ((o / p) % 2 = 1)
theorem lsb_nat (v : BitVec 64) (j : Nat) : v.getLsbD j = decide (v.toNat / 2 ^ j % 2 = 1) := by
  rw [← BitVec.testBit_toNat, Nat.testBit_eq_decide_div_mod_eq]
theorem bitAt_lsb (o : Int) (j : Nat) (hj : j ≤ 8) : bitAt o ((2 ^ j : Nat) : Int) = (BitVec.ofInt 64 o).getLsbD j := by
  rw [lsb_nat, BitVec.toNat_ofInt, bitAt]
  refine decide_eq_decide.2 ?_
  rcases j with _ | _ | _ | _ | _ | _ | _ | _ | _ | j <;> first | omega | (simp only [Nat.zero_add, Nat.reduceAdd, Nat.reducePow]; omega)
theorem bitAt_wrap (v : BitVec 64) (j : Nat) (hj : j ≤ 8) : bitAt (IntKind.i64.wrap v.toNat) ((2 ^ j : Nat) : Int) = v.getLsbD j := by
  rw [lsb_nat, bitAt, IntKind.wrap_i64]
  have := v.isLt
  refine decide_eq_decide.2 ?_
  rcases j with _ | _ | _ | _ | _ | _ | _ | _ | _ | j <;> first | omega | (simp only [Nat.zero_add, Nat.reduceAdd, Nat.reducePow]; omega)
theorem bitAt_or (o p : Int) (j : Nat) (hj : j ≤ 8) : bitAt (bits .or .i64 o p) ((2 ^ j : Nat) : Int) = (bitAt o ((2 ^ j : Nat) : Int) || bitAt p ((2 ^ j : Nat) : Int)) := by
  show bitAt (IntKind.i64.wrap (BitVec.ofInt 64 o ||| BitVec.ofInt 64 p).toNat) _ = _
  rw [bitAt_wrap _ _ hj, bitAt_lsb _ _ hj, bitAt_lsb _ _ hj, BitVec.getLsbD_or]
theorem and_pow (o : Int) (j : Nat) (hj : j ≤ 8) : bits .and .i64 ((2 ^ j : Nat) : Int) o = if bitAt o ((2 ^ j : Nat) : Int) = true then ((2 ^ j : Nat) : Int) else 0 := by
  show IntKind.i64.wrap (BitVec.ofInt 64 ((2 ^ j : Nat) : Int) &&& BitVec.ofInt 64 o).toNat = _
  have e1 : (BitVec.ofInt 64 ((2 ^ j : Nat) : Int)) = BitVec.twoPow 64 j := by
    rcases j with _ | _ | _ | _ | _ | _ | _ | _ | _ | j <;> first | decide | omega
  rw [e1, BitVec.and_comm, BitVec.and_twoPow, ← bitAt_lsb o j hj]
  split
  · rcases j with _ | _ | _ | _ | _ | _ | _ | _ | _ | j <;> first | decide | omega
  · decide
def badF (s : Int) : Int := if s = 1 then 1 else if s = 2 then 4 else if s = 3 then 2 else 0
def bitF (k s : Int) : Int := if s < 0 ∨ 3 < s then 0 else if k = 4 then (if s = 0 then 8 else badF s) else if k = 0 then badF s else if k = 1 then 8 else if k = 2 ∨ k = 3 then 16 else 0
theorem bad_walk (s : Int) (w : World) : Calls Tryd.prog 20 #[.int .i64 s] w fun e w' => e = .returned (.int .i64 (badF s)) ∧ w = w' := by
  unfold badF
  by_cases h1 : s = 1
  · subst h1; go_enter Tryd.func20, Tryd.ntmps20; go_wp2; go_ret; exact ⟨rfl, rfl⟩
  by_cases h2 : s = 2
  · subst h2; go_enter Tryd.func20, Tryd.ntmps20; go_wp2; go_ret; exact ⟨rfl, rfl⟩
  by_cases h3 : s = 3
  · subst h3; go_enter Tryd.func20, Tryd.ntmps20; go_wp2; go_ret; exact ⟨rfl, rfl⟩
  rw [if_neg h1, if_neg h2, if_neg h3]
  have b1 : (s == 1) = false := beq_eq_false_iff_ne.2 h1
  have b2 : (s == 2) = false := beq_eq_false_iff_ne.2 h2
  have b3 : (s == 3) = false := beq_eq_false_iff_ne.2 h3
  clear h1 h2 h3
  go_enter Tryd.func20, Tryd.ntmps20; go_wp2; go_ret; exact ⟨rfl, rfl⟩
theorem bit_walk (k s : Int) (w : World) : Calls Tryd.prog 9 #[.int .i64 k, .int .i64 s] w fun e w' => e = .returned (.int .i64 (bitF k s)) ∧ w = w' := by
  have HB := Lib.hid (bad_walk s)
  unfold bitF
  by_cases h0 : s < 0
  · have d0 : decide (s < 0) = true := decide_eq_true h0
    rw [if_pos (Or.inl h0)]; clear h0
    go_enter Tryd.func9, Tryd.ntmps9; go_wp2; go_ret; exact ⟨rfl, rfl⟩
  have d0 : decide (s < 0) = false := decide_eq_false h0
  by_cases h3 : 3 < s
  · have d3 : decide (3 < s) = true := decide_eq_true h3
    rw [if_pos (Or.inr h3)]; clear h0 h3
    go_enter Tryd.func9, Tryd.ntmps9; go_wp2; go_ret; exact ⟨rfl, rfl⟩
  have d3 : decide (3 < s) = false := decide_eq_false h3
  rw [if_neg (by omega)]; clear h0 h3
  by_cases k4 : k = 4
  · subst k4
    rw [if_pos rfl]
    by_cases s0 : s = 0
    · subst s0; go_enter Tryd.func9, Tryd.ntmps9; go_wp2; go_ret; exact ⟨rfl, rfl⟩
    · rw [if_neg s0]
      have b0 : (s == 0) = false := beq_eq_false_iff_ne.2 s0
      clear s0
      go_enter Tryd.func9, Tryd.ntmps9; go_wp2_with (fail); refine (HB.out _).mono ?_; rintro e w1 ⟨rfl, rfl⟩; go_wp2; go_ret; exact ⟨rfl, rfl⟩
  rw [if_neg k4]
  have b4 : (k == 4) = false := beq_eq_false_iff_ne.2 k4
  clear k4
  by_cases k0 : k = 0
  · subst k0; rw [if_pos rfl]
    go_enter Tryd.func9, Tryd.ntmps9; go_wp2_with (fail); refine (HB.out _).mono ?_; rintro e w1 ⟨rfl, rfl⟩; go_wp2; go_ret; exact ⟨rfl, rfl⟩
  rw [if_neg k0]
  have b0 : (k == 0) = false := beq_eq_false_iff_ne.2 k0
  clear k0
  by_cases k1 : k = 1
  · subst k1; rw [if_pos rfl]; go_enter Tryd.func9, Tryd.ntmps9; go_wp2; go_ret; exact ⟨rfl, rfl⟩
  rw [if_neg k1]
  have b1 : (k == 1) = false := beq_eq_false_iff_ne.2 k1
  clear k1
  by_cases k2 : k = 2
  · subst k2; rw [if_pos (Or.inl rfl)]; go_enter Tryd.func9, Tryd.ntmps9; go_wp2; go_ret; exact ⟨rfl, rfl⟩
  have b2 : (k == 2) = false := beq_eq_false_iff_ne.2 k2
  by_cases k3 : k = 3
  · subst k3; rw [if_pos (Or.inr rfl)]; clear k2; go_enter Tryd.func9, Tryd.ntmps9; go_wp2; go_ret; exact ⟨rfl, rfl⟩
  have b3 : (k == 3) = false := beq_eq_false_iff_ne.2 k3
  rw [if_neg (by omega)]
  clear k2 k3
  go_enter Tryd.func9, Tryd.ntmps9; go_wp2; go_ret; exact ⟨rfl, rfl⟩
end Go.Proofs.YtjffciejoahegaaDoor
