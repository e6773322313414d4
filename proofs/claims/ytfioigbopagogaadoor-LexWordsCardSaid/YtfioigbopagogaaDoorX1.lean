/- Slices of texts; blank, ends, walked. -/
import Derived.Test.YtfioigbopagogaaDoorT1
namespace Go.Proofs.YtfioigbopagogaaDoor
open Go.RowKit
set_option linter.unusedVariables false
theorem mid_data (s : ByteArray) (f i : Nat) (h : i ≤ s.size) : (s.extract f i).data.toList = (s.data.toList.take i).drop f := by
  apply List.ext_getElem?
  intro k
  rw [ByteArray.data_extract, Array.getElem?_toList, Array.getElem?_extract, List.getElem?_drop]
  by_cases hk : f + k < i
  · rw [List.getElem?_take_of_lt hk, Array.getElem?_toList, if_pos (by have : s.data.size = s.size := rfl; omega)]
  · rw [List.getElem?_take_eq_none (by omega), if_neg (by have : s.data.size = s.size := rfl; omega)]
theorem slice_from (s : ByteArray) (i : Nat) (h : i ≤ s.size) (W : World) : ∃ nx : ByteArray, (Instr.slice 9 (.string s) (some (.int .i64 (i : Int))) none none).run Tryd.prog W = .ok (.string nx) W ∧ nx.data.toList = s.data.toList.drop i := by
  refine ⟨s.extract i s.size, ?_, ?_⟩
  · rw [run_slice_string_from_if W 9 s .i64 (i : Int) Tryd.underlying9, if_pos ⟨by omega, by omega⟩, Int.toNat_natCast]
  · rw [mid_data s i s.size (Nat.le_refl _), List.take_of_length_le (by rw [sz_len]; exact Nat.le_refl _)]
theorem slice_to (s : ByteArray) (i : Nat) (h : i ≤ s.size) (W : World) : ∃ nx : ByteArray, (Instr.slice 9 (.string s) none (some (.int .i64 (i : Int))) none).run Tryd.prog W = .ok (.string nx) W ∧ nx.data.toList = s.data.toList.take i := by
  refine ⟨s.extract 0 i, ?_, ?_⟩
  · rw [run_slice_string_to_if W 9 s .i64 (i : Int) Tryd.underlying9, if_pos ⟨by omega, by omega⟩, Int.toNat_natCast]
  · rw [mid_data s 0 i h, List.drop_zero]
theorem slice_mid (s : ByteArray) (f i : Nat) (hf : f ≤ i) (h : i ≤ s.size) (W : World) : ∃ nx : ByteArray, (Instr.slice 9 (.string s) (some (.int .i64 (f : Int))) (some (.int .i64 (i : Int))) none).run Tryd.prog W = .ok (.string nx) W ∧ nx.data.toList = (s.data.toList.take i).drop f := by
  refine ⟨s.extract f i, ?_, mid_data s f i h⟩
  rw [run_slice_string W 9 s .i64 .i64 _ _ Tryd.underlying9 (by omega) (by omega) (by omega), Int.toNat_natCast, Int.toNat_natCast]
theorem blank_walk (c : UInt8) (w : World) : Calls Tryd.prog 22 #[.int .u8 c.toNat] w fun y w' => y = .returned (.bool (isB c)) ∧ w' = w := by
  have e32 := byte_is c 32
  have e9 := byte_is c 9
  have e13 := byte_is c 13
  have hB : isB c = (decide (c = 32) || (decide (c = 9) || decide (c = 13))) := by
    unfold isB blanks
    by_cases h1 : c = 32
    · subst h1; rfl
    · by_cases h2 : c = 9
      · subst h2; rfl
      · by_cases h3 : c = 13
        · subst h3; rfl
        · rw [decide_eq_false h1, decide_eq_false h2, decide_eq_false h3]; simp [h1, h2, h3]
  rw [hB]
  have e32' : ((c.toNat : Int) == 32) = decide (c = 32) := e32
  have e9' : ((c.toNat : Int) == 9) = decide (c = 9) := e9
  have e13' : ((c.toNat : Int) == 13) = decide (c = 13) := e13
  generalize decide (c = 32) = b1 at *
  generalize decide (c = 9) = b2 at *
  generalize decide (c = 13) = b3 at *
  clear e32 e9 e13 hB
  cases b1 with
  | true => go_enter Tryd.func22, Tryd.ntmps22; go_wp2_with (fail); go_ret; exact ⟨rfl, rfl⟩
  | false => cases b2 with
    | true => go_enter Tryd.func22, Tryd.ntmps22; go_wp2_with (fail); go_ret; exact ⟨rfl, rfl⟩
    | false => cases b3 <;> (go_enter Tryd.func22, Tryd.ntmps22; go_wp2_with (fail); go_ret; exact ⟨rfl, rfl⟩)
def lastIs (x : List UInt8) : Bool := x.getLast? == some 92
theorem ends_walk (s : ByteArray) (w : World) (hs : s.size ≤ 9223372036854775807) : Calls Tryd.prog 24 #[.string s] w fun y w' => y = .returned (.bool (lastIs s.data.toList)) ∧ w' = w := by
  cases hz : s.size with
  | zero =>
    have h0 : ¬ (0 : Int) < (s.size : Int) := by omega
    have hnil : s.data.toList = [] := List.eq_nil_of_length_eq_zero (by rw [sz_len]; exact hz)
    have hl : lastIs s.data.toList = false := by rw [hnil]; rfl
    rw [hl]
    clear hz hl hnil
    go_enter Tryd.func24, Tryd.ntmps24; go_wp2_with (fail); go_ret; exact ⟨rfl, rfl⟩
  | succ n =>
    have h0 : (0 : Int) < (s.size : Int) := by omega
    have he : (s.size : Int) - 1 = (n : Int) := by omega
    have hn : n < s.size := by omega
    have hn0 : (0 : Int) ≤ (n : Int) := by omega
    have hn1 : (n : Int) < (s.size : Int) := by omega
    obtain ⟨c, hc⟩ : ∃ c, s[n] = c := ⟨_, rfl⟩
    have hl : lastIs s.data.toList = decide (c = 92) := by
      unfold lastIs
      have hcl : s.data.toList[n]? = some c := by rw [List.getElem?_eq_getElem (by rw [sz_len]; exact hn), ← hc]; rfl
      rw [List.getLast?_eq_getElem?, sz_len, hz, Nat.add_sub_cancel, hcl]
      by_cases h : c = 92
      · subst h; rfl
      · rw [decide_eq_false h]; simp [h]
    have e92 : ((c.toNat : Int) == 92) = decide (c = 92) := byte_is c 92
    rw [hl]
    generalize decide (c = 92) = b at *
    have hn2 : n ≤ 9223372036854775807 := by omega
    clear hz hl hs
    cases b <;> (go_enter Tryd.func24, Tryd.ntmps24; go_wp2_with (fail); go_ret; exact ⟨rfl, rfl⟩)
theorem trim_lr (x : List UInt8) : Lib.trimS x blanks = Lib.trimRightS (x.dropWhile isB) blanks := by
  rcases trim_head x with ⟨h, e⟩ | ⟨c, u, v, h1, h2, e⟩
  · rw [e]
    have : x.dropWhile isB = [] := by have := dropWhile_bl (b := x) (y := []) h; simpa using this
    rw [this]; rfl
  · have hx : x = x.takeWhile isB ++ (x.dropWhile isB) := (List.takeWhile_append_dropWhile).symm
    have hb : Bl (x.takeWhile isB) := takeW
    have e2 : Lib.trimS x blanks = Lib.trimS (x.dropWhile isB) blanks := by
      conv => lhs; rw [hx]
      have := trim_bl (b1 := x.takeWhile isB) (b2 := []) (x := x.dropWhile isB) hb (fun c hc => by cases hc)
      simpa using this
    rw [e2, h1]
    have hne : ∀ z : List UInt8, ∃ v, ((z ++ [c]).dropWhile isB).reverse = c :: v := fun z => by
      induction z with
      | nil => exact ⟨[], by rw [List.nil_append, List.dropWhile_cons_of_neg (by rw [h2]; simp)]; rfl⟩
      | cons d r ih =>
        by_cases hd : isB d = true
        · rw [List.cons_append, List.dropWhile_cons_of_pos hd]; exact ih
        · rw [List.cons_append, List.dropWhile_cons_of_neg hd, List.reverse_cons, List.reverse_append]; exact ⟨r.reverse ++ [d], by simp⟩
    obtain ⟨v, hv⟩ := hne u.reverse
    unfold Lib.trimS
    rw [trimR, List.reverse_cons, hv, trimL, List.dropWhile_cons_of_neg (by rw [h2]; simp)]
end Go.Proofs.YtfioigbopagogaaDoor
