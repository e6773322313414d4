/- The document's Named. -/
import Derived.Test.YtgocmfjijoibkaaDoorR1
namespace Go.Proofs.YtgocmfjijoibkaaDoor
open Go.RowKit
set_option linter.unusedSimpArgs false
set_option linter.unusedVariables false
def setB : ByteArray := ⟨#[97, 98, 99, 100, 101, 102, 103, 104, 105, 106, 107, 108, 109, 110, 111, 112, 113, 114, 115, 116, 117, 118, 119, 120, 121, 122, 48, 49, 50, 51, 52, 53, 54, 55, 56, 57, 46, 45]⟩
theorem set_at (k : Nat) (h : k < 38) : setS[k]? = some (setB[k]'h) := by
  rw [List.getElem?_eq_getElem (show k < setS.length from h)]; rfl
/-- The document's Named. -/
def NmSaid (s : ByteArray) (w : World) (y : Ending) (w' : World) : Prop := y = .returned (.bool (namedF s.data.toList)) ∧ Below w.heap.size w w'
set_option maxHeartbeats 8000000 in
set_option maxRecDepth 100000 in
theorem docnamed_walk (s : ByteArray) (hsz : s.size ≤ 9223372036854775807) (w : World) : Calls Tryd.prog 19 #[.string s] w (NmSaid s w) := by
  have HSL := Lib.hid (sz_len s)
  go_enter Tryd.func19, Tryd.ntmps19
  go_upto_region 1 with (fail)
  go_wp2_with (fail)
  go_loopw [3, 4, 5] (fun iv _ _ wl => ∃ i : Nat, iv = .int .i64 i ∧ i ≤ s.size ∧ (s.data.toList.take i).all okB = true ∧ Below w.heap.size w wl) (fun iv _ _ _ => s.size - (intOf iv).toNat)
  case atStart => exact ⟨0, rfl, Nat.zero_le _, rfl, Below.refl _ _⟩
  case round =>
    obtain ⟨wl, rfl⟩ : ∃ Z, Z = wr := ⟨_, rfl⟩
    obtain ⟨i, rfl, hi, hok, bel⟩ := hrel
    have i0 : (0 : Int) ≤ i := by omega
    have HOK := Lib.hid hok
    have BEL := Lib.hid bel
    clear hok bel
    by_cases his : i < s.size
    · have his' : (i : Int) < (s.size : Int) := by omega
      have HAT := Lib.hid (all_take_succ s i his)
      have HNB := Lib.hid (fun h => named_bad (s := s) (i := i) his h)
      have HC := Lib.hid (Eq.refl s[i])
      go_upto_region 5 with (fail)
      go_wp2_with (fail)
      go_loopw [4, 5] (fun bv kv wz => ∃ k : Nat, kv = .int .i64 k ∧ k ≤ 38 ∧ bv = .bool ((setS.take k).any (fun z => decide (s[i] = z))) ∧ Below w.heap.size w wz) (fun _ kv _ => 38 - (intOf kv).toNat)
      case atStart => exact ⟨0, rfl, by omega, rfl, BEL.out⟩
      case round =>
        obtain ⟨wz, rfl⟩ : ∃ Z, Z = wr := ⟨_, rfl⟩
        obtain ⟨k, rfl, hk, rfl, bz⟩ := hrel
        have k0 : (0 : Int) ≤ k := by omega
        have BZ := Lib.hid bz
        clear bz BEL
        by_cases hk38 : k < 38
        · have hk38' : (k : Int) < 38 := by omega
          have HAN := Lib.hid (show (setS.take (k + 1)).any (fun z => decide (s[i] = z)) = ((setS.take k).any (fun z => decide (s[i] = z)) || ((s[i].toNat : Int) == ((setB[k]'hk38).toNat : Int))) by rw [byte_is, List.take_add_one, set_at k hk38, List.any_append]; simp)
          generalize (setS.take k).any (fun z => decide (s[i] = z)) = b1 at *
          go_upto_region 8 with (fail)
          cases b1
          · go_quiet (fail)
            have BN := Lib.hid (below_drewN BZ.out nq)
            clear BZ
            go_wp2_with (fail)
            go_roundw
            case rel => exact ⟨k + 1, by go_num, by omega, by rw [HAN.out]; rfl, BN.out⟩
            case measure => simp [intOf]; omega
          · go_quiet (fail)
            have BN := Lib.hid (below_drewN BZ.out nq)
            clear BZ
            go_wp2_with (fail)
            go_roundw
            case rel => exact ⟨k + 1, by go_num, by omega, by rw [HAN.out]; rfl, BN.out⟩
            case measure => simp [intOf]; omega
        · have hk38' : ¬ (k : Int) < 38 := by omega
          obtain rfl : k = 38 := by omega
          have HO := Lib.hid (show (setS.take 38).any (fun z => decide (s[i] = z)) = okB s[i] from set_ok _)
          generalize (setS.take 38).any (fun z => decide (s[i] = z)) = b1 at *
          cases b1 with
          | false =>
            have HR := Lib.hid (HNB.out HO.out.symm)
            go_wp2_with (fail)
            go_ret
            exact ⟨by rw [HR.out]; rfl, BZ.out⟩
          | true =>
            have HN := Lib.hid (show (s.data.toList.take (i + 1)).all okB = true by rw [HAT.out, HOK.out, ← HO.out]; rfl)
            go_wp2_with (fail)
            go_roundw
            case rel => exact ⟨i + 1, by go_num, by omega, HN.out, BZ.out⟩
            case measure => simp [intOf]; omega
    · have his' : ¬ (i : Int) < (s.size : Int) := by omega
      obtain rfl : i = s.size := by omega
      have HF := Lib.hid (show namedF s.data.toList = (decide (0 < s.size) && decide (s.size ≤ 32)) by
        have h := HOK.out
        rw [List.take_of_length_le (Nat.le_of_eq HSL.out)] at h
        unfold namedF
        rw [h, Bool.true_and]; rfl)
      by_cases h1 : 0 < s.size
      · have h1' : (0 : Int) < (s.size : Int) := by omega
        by_cases h2 : s.size ≤ 32
        · have h2' : (s.size : Int) < 33 := by omega
          rw [decide_eq_true h1, decide_eq_true h2] at HF
          go_wp2_with (fail)
          go_ret
          exact ⟨by rw [HF.out]; rfl, BEL.out⟩
        · have h2' : ¬ (s.size : Int) < 33 := by omega
          rw [decide_eq_true h1, decide_eq_false h2] at HF
          go_wp2_with (fail)
          go_ret
          exact ⟨by rw [HF.out]; rfl, BEL.out⟩
      · have h1' : ¬ (0 : Int) < (s.size : Int) := by omega
        rw [decide_eq_false h1, Bool.false_and] at HF
        go_wp2_with (fail)
        go_ret
        exact ⟨by rw [HF.out]; rfl, BEL.out⟩
end Go.Proofs.YtgocmfjijoibkaaDoor
