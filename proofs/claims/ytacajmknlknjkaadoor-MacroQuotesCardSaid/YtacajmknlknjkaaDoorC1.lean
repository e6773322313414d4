/- The document's Check, walked. -/
import Derived.Test.YtacajmknlknjkaaDoorA5
namespace Go.Proofs.YtacajmknlknjkaaDoor
open Go.RowKit
set_option linter.unusedVariables false
theorem byte_at (s : ByteArray) (i : Nat) (h : i < s.size) : s.data.toList.take (i + 1) = s.data.toList.take i ++ [s[i]] := by
  have h' : i < s.data.toList.length := by rw [sz_len]; exact h
  rw [List.take_add_one, List.getElem?_eq_getElem h']; rfl
theorem dollar (c : UInt8) : ((c.toNat : Int) == 36) = decide (c = 36) := by
  by_cases h : c = 36
  · subst h; rfl
  · rw [decide_eq_false h]
    have : ¬ c.toNat = 36 := fun e => h (UInt8.toNat.inj e)
    simp; omega
set_option maxRecDepth 100000 in
set_option maxHeartbeats 1000000 in
theorem check_walk (s : ByteArray) (w : World) (hs : s.size ≤ 9223372036854775807) :
    Calls Tryd.prog 24 #[.string s] w fun y w' => y = .returned (.int .i64 (if 65536 < s.data.toList.length then 2 else if s.data.toList.count 36 % 2 = 1 then 3 else 0)) ∧ w' = w := by
  have hsl := sz_len s
  rw [hsl]
  by_cases h1 : 65536 < s.size
  · rw [if_pos h1]
    have h1' : (65536 : Int) < (s.size : Int) := by omega
    go_enter Tryd.func24, Tryd.ntmps24
    go_wp2_with (fail)
    go_ret
    exact ⟨rfl, rfl⟩
  rw [if_neg h1]
  generalize hr : (if s.data.toList.count 36 % 2 = 1 then (3 : Int) else 0) = r
  have HR := Lib.hid hr
  clear hr
  have h1' : ¬ (65536 : Int) < (s.size : Int) := by omega
  have HSL := Lib.hid hsl
  clear hsl
  go_enter Tryd.func24, Tryd.ntmps24
  go_upto_region 5 with (fail)
  go_loopw [3, 4] (fun nv iv wr => ∃ i n : Nat, nv = .int .i64 n ∧ iv = .int .i64 i ∧ i ≤ s.size ∧ (s.data.toList.take i).count 36 = n ∧ wr = w) (fun _ iv _ => s.size - (intOf iv).toNat)
  case atStart => exact ⟨0, 0, rfl, rfl, Nat.zero_le _, rfl, rfl⟩
  case round =>
    obtain ⟨i, n, rfl, rfl, hi, hn, rfl⟩ := hrel
    have i0 : (0 : Int) ≤ i := by omega
    have hnb : n ≤ 65536 := by
      have := List.count_le_length (a := (36 : UInt8)) (l := s.data.toList.take i)
      rw [List.length_take] at this; omega
    by_cases hlt : i < s.size
    · have hlt' : (i : Int) < (s.size : Int) := by omega
      have HT := Lib.hid (show (s.data.toList.take (i + 1)).count 36 = n + [s[i]].count 36 by rw [byte_at s i hlt, List.count_append, hn])
      clear hn
      obtain ⟨c, hc⟩ : ∃ c, s[i] = c := ⟨_, rfl⟩
      rw [hc] at HT
      by_cases h36 : c = 36
      · have hd : ((c.toNat : Int) == 36) = true := by rw [dollar]; exact decide_eq_true h36
        have HT2 := Lib.hid (show [c].count 36 = 1 by rw [h36]; rfl)
        clear h36
        go_wp2_with (fail)
        go_roundw
        case rel => exact ⟨i + 1, n + 1, by go_num, by go_num, by omega, by rw [HT.out, HT2.out], by first | rfl | trivial⟩
        case measure => simp [intOf]; omega
      · have hd : ((c.toNat : Int) == 36) = false := by rw [dollar]; exact decide_eq_false h36
        have HT2 := Lib.hid (show [c].count 36 = 0 by rw [List.count_cons_of_ne h36]; rfl)
        clear h36
        go_wp2_with (fail)
        go_roundw
        case rel => exact ⟨i + 1, n, by go_num, by go_num, by omega, by rw [HT.out, HT2.out]; rfl, by first | rfl | trivial⟩
        case measure => simp [intOf]; omega
    · obtain rfl : i = s.size := by omega
      rw [List.take_of_length_le (by rw [HSL.out]; exact Nat.le_refl _)] at hn
      have HN := Lib.hid hn
      rcases Nat.mod_two_eq_zero_or_one n with hm | hm
      · obtain ⟨q, rfl⟩ : ∃ q, n = 2 * q := ⟨n / 2, by omega⟩
        have e1 : ((2 * q : Nat) : Int) % 2 = 0 := by omega
        have e2 := Lib.hid hm
        clear hn hm
        generalize 2 * q = n at *
        go_wp2_with (fail)
        go_ret
        refine ⟨?_, by first | rfl | trivial⟩
        rw [← HR.out, HN.out, if_neg (by have := e2.out; omega)]; rfl
      · obtain ⟨q, rfl⟩ : ∃ q, n = 2 * q + 1 := ⟨n / 2, by omega⟩
        have e1 : ((2 * q + 1 : Nat) : Int) % 2 = 1 := by omega
        have e2 := Lib.hid hm
        clear hn hm
        generalize 2 * q + 1 = n at *
        go_wp2_with (fail)
        go_ret
        refine ⟨?_, by first | rfl | trivial⟩
        rw [← HR.out, HN.out, if_pos e2.out]; rfl
end Go.Proofs.YtacajmknlknjkaaDoor
