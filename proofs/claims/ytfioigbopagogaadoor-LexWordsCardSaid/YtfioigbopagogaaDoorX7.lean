/- The rune that is no byte, among the blanks. -/
import Derived.ShutString
import Derived.Test.YtfioigbopagogaaDoorX1
import Derived.Test.YtfioigbopagogaaDoorStrLay2
import Derived.Shelf.Strings.IndexAnyAll
import Derived.Deep.QuietTactic
import Derived.BigQuiet
import Derived.WalkMore
import Derived.Laws.Runes
namespace Go.Proofs.YtfioigbopagogaaDoor
open Go.RowKit
set_option linter.unusedVariables false
theorem u8_toNat {n : Nat} (h : n < 256) : (UInt8.ofNat n).toNat = n := by simp; omega
theorem encode_high (r : Int) (h : 128 ≤ r) : ∃ n, (Utf8.encode r).size = n + 1 ∧ 1 ≤ n ∧ n ≤ 3 ∧ ∀ b ∈ (Utf8.encode r).data.toList, 128 ≤ b.toNat := by
  unfold Utf8.encode
  generalize hc : (if Utf8.valid r = true then r.toNat else Utf8.runeError) = c
  have hc1 : 128 ≤ c ∧ c ≤ 1114111 := by
    subst hc
    split
    · rename_i hv
      unfold Utf8.valid at hv
      simp only [Bool.or_eq_true, Bool.and_eq_true, decide_eq_true_eq] at hv
      omega
    · unfold Utf8.runeError; omega
  have e1 := u8_toNat (n := 0x80 + c % 64) (by omega)
  have e2 := u8_toNat (n := 0x80 + c / 64 % 64) (by omega)
  have e3 := u8_toNat (n := 0x80 + c / 4096 % 64) (by omega)
  dsimp only
  rw [if_neg (by omega)]
  split
  · have e4 := u8_toNat (n := 0xC0 + c / 64) (by omega)
    refine ⟨1, rfl, by omega, by omega, fun b hb => ?_⟩
    simp only [List.mem_cons, List.not_mem_nil, or_false] at hb
    rcases hb with rfl | rfl <;> omega
  · split
    · have e4 := u8_toNat (n := 0xE0 + c / 4096) (by omega)
      refine ⟨2, rfl, by omega, by omega, fun b hb => ?_⟩
      simp only [List.mem_cons, List.not_mem_nil, or_false] at hb
      rcases hb with rfl | rfl | rfl <;> omega
    · have e4 := u8_toNat (n := 0xF0 + c / 262144) (by omega)
      refine ⟨3, rfl, by omega, by omega, fun b hb => ?_⟩
      simp only [List.mem_cons, List.not_mem_nil, or_false] at hb
      rcases hb with rfl | rfl | rfl | rfl <;> omega
def BoolSaid (w : World) (y : Ending) (w' : World) : Prop := (∃ b, y = .returned (.bool b)) ∧ w' = w
theorem valid_walk (r : Int) (w : World) : Calls Tryd.prog 54 #[.int .i32 r] w (BoolSaid w) := by
  by_cases h1 : 0 ≤ r ∧ r < 55296
  · obtain ⟨a, b⟩ := h1
    go_enter Tryd.func54, Tryd.ntmps54; go_wp2_with (fail); go_ret; exact ⟨⟨_, rfl⟩, rfl⟩
  · by_cases h2 : 57343 < r ∧ r ≤ 1114111
    · obtain ⟨a, b⟩ := h2
      have c : ¬ r < 55296 := by omega
      have d : 0 ≤ r := by omega
      go_enter Tryd.func54, Tryd.ntmps54; go_wp2_with (fail); go_ret; exact ⟨⟨_, rfl⟩, rfl⟩
    · have e1 : (decide (0 ≤ r) && decide (r < 55296)) = false := by simp; omega
      have e2 : (decide (57343 < r) && decide (r ≤ 1114111)) = false := by simp; omega
      by_cases a : 0 ≤ r
      · have b : ¬ r < 55296 := by omega
        by_cases c : 57343 < r
        · have d : ¬ r ≤ 1114111 := by omega
          clear h1 h2 e1 e2
          go_enter Tryd.func54, Tryd.ntmps54; go_wp2_with (fail); go_ret; exact ⟨⟨_, rfl⟩, rfl⟩
        · clear h1 h2 e1 e2
          go_enter Tryd.func54, Tryd.ntmps54; go_wp2_with (fail); go_ret; exact ⟨⟨_, rfl⟩, rfl⟩
      · have c : ¬ 57343 < r := by omega
        clear h1 h2 e1 e2
        go_enter Tryd.func54, Tryd.ntmps54; go_wp2_with (fail); go_ret; exact ⟨⟨_, rfl⟩, rfl⟩
theorem idxb (s : ByteArray) (c : Int) (w : World) : Calls Tryd.prog 53 #[.string s, .int .u8 c] w fun e w' => e = .returned (.int .i64 (Lib.indexByte s.data.toList c.toNat.toUInt8)) ∧ w' = w :=
  Any.strings_IndexByte { Tryd.idxAny with } s c w
theorem idx_none (s : ByteArray) (c : UInt8) (h : c ∉ s.data.toList) : Lib.indexByte s.data.toList c = -1 := by
  have := Lib.contains_iff_indexByte s.data.toList c
  have h2 : s.data.toList.contains c = false := by simpa using h
  rw [h2] at this
  have h3 := Lib.indexByte_ge s.data.toList c
  have := of_decide_eq_false this.symm
  omega
def RuneSaid (w : World) (y : Ending) (w' : World) : Prop := y = .returned (.int .i64 (-1)) ∧ Below w.heap.size w w'
theorem below_iter {w : World} (s : ByteArray) (i : Nat) : Below w.heap.size w (w.iter s i) := below_al (Below.refl _ _) _
set_option maxRecDepth 100000 in
set_option maxHeartbeats 4000000 in
theorem rune_walk (S : ByteArray) (hS : S.size = 3) (hA : ∀ i (h : i < S.size), (S[i]).toNat < 128) (r : Int) (w : World) (h : 128 ≤ r) (h2 : r ≤ 2147483647) : Calls Tryd.prog 37 #[.string S, .int .i32 r] w (RuneSaid w) := by
  have h128 : ¬ r < 128 := by omega
  have h0 : 0 ≤ r := by omega
  by_cases he : r = 65533
  · have he' : (r == 65533) = true := by rw [he]; rfl
    have HA := Lib.hid hA
    clear he h2 h hA
    go_enter Tryd.func37, Tryd.ntmps37
    go_upto_region 38 with (fail)
    go_loopg [5, 6] 3 (fun g _ _ wx => ∃ i : Nat, i + g = 3 ∧ wx = w.iter S i)
    case atStart => exact ⟨0, by omega, rfl⟩
    case round =>
      obtain ⟨i, hig, rfl⟩ := hrel
      cases gk with
      | zero =>
        have hnx := fun ty => run_next_end (P := Tryd.prog) w S i ty (by omega)
        go_wp2_with (fail)
        go_ret
        exact ⟨rfl, below_iter _ _⟩
      | succ g =>
        have hi : i < S.size := by omega
        have hx := HA.out i hi
        have hnx := fun ty => run_next_ascii (P := Tryd.prog) w S i ty hi hx
        generalize S[i]'hi = x at *
        have he2 : ((x.toNat : Int) == 65533) = false := beq_eq_false_iff_ne.2 (by omega)
        clear hx
        go_wp2_with (fail)
        go_roundg g
        case measure => omega
        case rel => exact ⟨i + 1, by omega, rfl⟩
  · have he' : (r == 65533) = false := beq_eq_false_iff_ne.2 he
    have VW := Lib.hid (valid_walk r w)
    obtain ⟨n, hn, hn1, hn3, hb⟩ := encode_high r h
    have hconv : ∀ W, (convert 21 9 (.int .i32 r)).run Tryd.prog W = .ok (.string (Utf8.encode r)) W := fun W => run_convert_int_string W 21 9 .i32 r (by rw [Tryd.underlying21]; rfl) Tryd.underlying9
    generalize Utf8.encode r = R at *
    have hnR : n < R.size := by omega
    have hc : 128 ≤ (R[n]'hnR).toNat := hb _ (by rw [Array.mem_toList_iff]; exact Array.getElem_mem _)
    obtain ⟨c, hce⟩ : ∃ c, R[n]'hnR = c := ⟨_, rfl⟩
    rw [hce] at hc
    have HC := Lib.hid hc
    have HA := Lib.hid hA
    have en : (R.size : Int) - 1 = (n : Int) := by omega
    have n0 : (0 : Int) ≤ (n : Int) := by omega
    have nR : (n : Int) < (R.size : Int) := by omega
    have nR1 : (n : Int) < (n : Int) + 1 := by omega
    clear he hb hA hc
    go_enter Tryd.func37, Tryd.ntmps37
    go_wp2_with (fail)
    refine VW.out.mono ?_
    rintro y w1 ⟨⟨b, rfl⟩, rfl⟩
    clear VW
    cases b with
    | false =>
      go_wp2_with (fail)
      go_ret
      exact ⟨rfl, Below.refl _ _⟩
    | true =>
      go_wp2_with (fail)
      go_step3
      go_upto_region 5 with (fail)
      clear hconv
      go_loopw [9, 10] (fun iv kv wr => iv = .int .i64 n ∧ kv = .int .i64 0 ∧ wr = w1) (fun _ _ _ => 0)
      case atStart => exact ⟨rfl, rfl, rfl⟩
      case round =>
        obtain ⟨rfl, rfl, rfl⟩ := hrel
        by_cases hn2 : n < S.size
        · have nS : (n : Int) < (S.size : Int) := by omega
          have hx := HA.out n hn2
          obtain ⟨x, hxe⟩ : ∃ x, S[n]'hn2 = x := ⟨_, rfl⟩
          rw [hxe] at hx
          have hne : ((x.toNat : Int) != (c.toNat : Int)) = true := by
            have := HC.out
            simp only [bne_iff_ne, ne_eq]
            omega
          obtain ⟨nx, hsl, hnx⟩ : ∃ nx : ByteArray, (∀ W, (Instr.slice 9 (.string S) (some (.int .i64 ((n : Int) + 1))) none none).run Tryd.prog W = .ok (.string nx) W) ∧ nx.data.toList = S.data.toList.drop (n + 1) :=
            ⟨S.extract (n + 1) S.size, fun W => by rw [run_slice_string_from_if W 9 S .i64 ((n : Int) + 1) Tryd.underlying9, if_pos ⟨by omega, by omega⟩, show ((n : Int) + 1).toNat = n + 1 by omega],
              by rw [mid_data S (n + 1) S.size (Nat.le_refl _), List.take_of_length_le (by rw [sz_len]; exact Nat.le_refl _)]⟩
          have hnone : Lib.indexByte nx.data.toList (((c.toNat : Int)).toNat.toUInt8) = -1 := by
            apply idx_none
            rw [hnx]
            intro hm
            have h1 := List.mem_of_mem_drop hm
            obtain ⟨j, hj, hje⟩ := List.mem_iff_getElem.1 h1
            have h3 := HA.out j (by rw [← sz_len]; exact hj)
            have h4 : S[j]'(by rw [← sz_len]; exact hj) = S.data.toList[j] := rfl
            rw [h4, hje] at h3
            have h5 := HC.out
            have h6 : ((c.toNat : Int)).toNat.toUInt8 = c := by simp
            rw [h6] at h3
            omega
          have hsl2 : ∀ W, (Instr.slice 9 (.string S) (some (.int .i64 (IntKind.i64.wrap ((n : Int) + 1)))) none none).run Tryd.prog W = .ok (.string nx) W := fun W => by rw [wrap_small _ (by omega) (by omega)]; exact hsl W
          have IB := Lib.hid (fun W => idxb nx (c.toNat : Int) W)
          rw [hnone] at IB
          clear hnx hnone hx
          go_upto_region 6 with (fail)
          go_step3
          go_upto_region 6 with (fail)
          go_quiet (fail)
          have BQ := Lib.hid (below_drewN (Below.refl wr.heap.size wr) nq)
          generalize wr.drewN nq = wn at *
          go_upto_region 7 with (fail)
          go_quiet ((go_at_call 53; refine Calls.quiet_of_same (IB.out _)))
          clear hsl hsl2 IB
          go_wp2_with (fail)
          go_ret
          exact ⟨rfl, below_drewN BQ.out _⟩
        · obtain rfl : n = 3 := by omega
          have nS : ¬ ((3 : Nat) : Int) < (S.size : Int) := by omega
          have nS2 : ¬ (3 : Int) < (S.size : Int) := by omega
          go_wp2_with (fail)
          go_ret
          exact ⟨rfl, Below.refl _ _⟩
end Go.Proofs.YtfioigbopagogaaDoor
