/- Names. -/
import Derived.Test.YtgocmfjijoibkaaDoorY3
import Derived.Laws.RangeAny
import Derived.Lib.MapLaws
import Derived.Lib.TrimUEq
import Derived.Lib.OthersKept
import Derived.Deep.LoopGhost
import Derived.Lib.IndexBytes
namespace Go.Proofs.YtgocmfjijoibkaaDoor
open Go.RowKit
set_option linter.unusedSimpArgs false
set_option linter.unusedVariables false
open Go.Lib
theorem sz_len (s : ByteArray) : s.data.toList.length = s.size := rfl
theorem getD_some {l : List UInt8} {j : Nat} {b : UInt8} (h : l[j]? = some b) : l.getD j 0 = b := by rw [List.getD_eq_getElem?_getD, h]; rfl
theorem dec_high (s : ByteArray) (pos : Nat) (h : pos < s.size) (ha : 128 ≤ (s[pos]'h).toNat) :
    ∃ r n : Nat, Utf8.decode s pos = (r, n) ∧ 128 ≤ r ∧ r ≤ 1114111 ∧ 1 ≤ n ∧ pos + n ≤ s.size ∧ ∀ j, pos ≤ j → j < pos + n → ∀ b, s.data.toList[j]? = some b → 128 ≤ b.toNat := by
  have hb0 : s.data.toList[pos]? = some (s[pos]'h) := Lib.data_getElem? s pos h
  have g0 := getD_some hb0
  have hlen : s.data.toList.length = s.size := sz_len s
  have k1 := (s.data.toList.getD (pos + 1) 0).toNat_lt
  have k2 := (s.data.toList.getD (pos + 2) 0).toNat_lt
  have k3 := (s.data.toList.getD (pos + 3) 0).toNat_lt
  rw [Lib.decode_N, hlen, g0]
  have k0 := (s[pos]'h).toNat_lt
  generalize s[pos]'h = x at *
  rcases Lib.decodeN_shape (s.size - pos) x.toNat (s.data.toList.getD (pos + 1) 0).toNat (s.data.toList.getD (pos + 2) 0).toNat (s.data.toList.getD (pos + 3) 0).toNat with ⟨c, e⟩ | ⟨c1, c2, c3, cv, e⟩ | ⟨c1, c2, c3, c4, cv, cs, e⟩ | ⟨c1, c2, c3, c4, c5, cv, cw, e⟩ | e
  · omega
  all_goals
    refine ⟨_, _, e, by omega, by omega, by omega, by omega, fun j h1 h2 b hb => ?_⟩
    have gb := getD_some hb
    have hj : j = pos ∨ j = pos + 1 ∨ j = pos + 2 ∨ j = pos + 3 := by omega
    rcases hj with rfl | rfl | rfl | rfl
    all_goals
      have gn := congrArg UInt8.toNat gb
      try rw [g0] at gn
      omega
theorem all_take_succ (s : ByteArray) (i : Nat) (h : i < s.size) : (s.data.toList.take (i + 1)).all okB = ((s.data.toList.take i).all okB && okB s[i]) := by
  have h' : i < s.data.toList.length := h
  rw [List.take_add_one, List.getElem?_eq_getElem h', List.all_append]; simp; rfl
theorem named_bad {s : ByteArray} {i : Nat} (h : i < s.size) (hb : okB s[i] = false) : namedF s.data.toList = false := by
  have hm : s[i] ∈ s.data.toList := List.getElem_mem (l := s.data.toList) (n := i) h
  have : s.data.toList.all okB = false := by
    refine Bool.eq_false_iff.2 fun ha => ?_
    have := List.all_eq_true.1 ha _ hm
    rw [hb] at this; cases this
  unfold namedF
  rw [this]; rfl
def NamedSaid (s : ByteArray) (w : World) (y : Ending) (w' : World) : Prop := y = .returned (.bool (namedF s.data.toList)) ∧ Below w.heap.size w w'
set_option maxRecDepth 100000 in
set_option maxHeartbeats 8000000 in
theorem named_walk (s : ByteArray) (w : World) : Calls Tryd.prog 24 #[.string s] w (NamedSaid s w) := by
  have HSL := Lib.hid (sz_len s)
  go_enter Tryd.func24, Tryd.ntmps24
  go_upto_region 2 with (fail)
  have hk0 := World.iter_heap w s 0
  have B0 : Below w.heap.size w (w.iter s 0) := below_al (Below.refl _ _) _
  generalize w.iter s 0 = w2 at *
  go_loopg [4] s.size (fun g _ wx => ∃ i : Nat, i + g = s.size ∧ wx.heap[w.heap.size]? = some (.stringIter s i) ∧ (s.data.toList.take i).all okB = true ∧ Below w.heap.size w wx)
  case atStart => exact ⟨0, by omega, hk0, rfl, B0⟩
  case round =>
    obtain ⟨i, hig, hk, hok, bel⟩ := hrel
    have HOK := Lib.hid hok
    have BEL := Lib.hid bel
    clear hok bel hk0 B0
    cases gk with
    | zero =>
      obtain rfl : i = s.size := by omega
      have hnx := fun ty => run_next_end_at (P := Tryd.prog) wr w.heap.size s s.size ty hk (Nat.lt_irrefl _)
      have HF := Lib.hid (show namedF s.data.toList = (decide (0 < s.size) && decide (s.size ≤ 32)) by
        have h := HOK.out
        rw [List.take_of_length_le (Nat.le_of_eq HSL.out)] at h
        unfold namedF
        rw [h, Bool.true_and]; rfl)
      by_cases h1 : 0 < s.size
      · have h1' : (1 : Int) ≤ (s.size : Int) := by omega
        by_cases h2 : s.size ≤ 32
        · have h2' : (s.size : Int) ≤ 32 := by omega
          rw [decide_eq_true h1, decide_eq_true h2] at HF
          go_wp2_with (fail)
          go_ret
          exact ⟨by rw [HF.out]; rfl, BEL.out⟩
        · have h2' : ¬ (s.size : Int) ≤ 32 := by omega
          rw [decide_eq_true h1, decide_eq_false h2] at HF
          go_wp2_with (fail)
          go_ret
          exact ⟨by rw [HF.out]; rfl, BEL.out⟩
      · have h1' : ¬ (1 : Int) ≤ (s.size : Int) := by omega
        rw [decide_eq_false h1, Bool.false_and] at HF
        go_wp2_with (fail)
        go_ret
        exact ⟨by rw [HF.out]; rfl, BEL.out⟩
    | succ g =>
      have hi : i < s.size := by omega
      have HAT := Lib.hid (all_take_succ s i hi)
      have HNB := Lib.hid (fun hb => named_bad hi hb)
      obtain ⟨x, hx⟩ : ∃ x : UInt8, s[i]'hi = x := ⟨_, rfl⟩
      by_cases h128 : x.toNat < 128
      · have hnx := fun ty => run_next_ascii_at (P := Tryd.prog) wr w.heap.size s i ty hk hi (by rw [hx]; exact h128)
        rw [hx] at hnx HAT HNB
        have hk2 := iterAt_heap wr w.heap.size s i (i + 1) hk
        have B2 := below_iterAt BEL.out (Nat.le_refl _) s (i + 1)
        generalize wr.iterAt w.heap.size s (i + 1) = w3 at *
        have HK2 := Lib.hid hk2
        have BX := B2
        have B2 := Lib.hid B2
        clear hk hk2 hx
        obtain ⟨n, hn⟩ : ∃ n : Nat, x.toNat = n := ⟨_, rfl⟩
        have hok : okB x = ((decide (97 ≤ n) && decide (n ≤ 122)) || (decide (48 ≤ n) && decide (n ≤ 57)) || decide (n = 46) || decide (n = 45)) := by unfold okB; rw [hn]
        have HOK2 : okB x = true → Hid ((s.data.toList.take (i + 1)).all okB = true) := fun h => Lib.hid (by rw [HAT.out, HOK.out, h]; rfl)
        have HF2 : okB x = false → Hid (namedF s.data.toList = false) := fun h => Lib.hid (HNB.out h)
        rw [hn] at hnx h128
        have n0 : (0 : Int) ≤ (n : Int) := by omega
        by_cases ha : 97 ≤ n ∧ n ≤ 122
        · have f1 : ¬ (n : Int) < 97 := by omega
          have f2 : ¬ (122 : Int) < (n : Int) := by omega
          have HOK2 := HOK2 (by rw [hok, decide_eq_true ha.1, decide_eq_true ha.2]; rfl)
          clear HF2 hok ha hn HNB HAT
          go_wp2_with (fail)
          go_roundg g
          case measure => omega
          case rel => exact ⟨i + 1, by omega, HK2.out, HOK2.out, B2.out⟩
        · by_cases hb : 48 ≤ n ∧ n ≤ 57
          · have f1 : (n : Int) < 97 := by omega
            have f2 : ¬ (n : Int) < 48 := by omega
            have f3 : ¬ (57 : Int) < (n : Int) := by omega
            have HOK2 := HOK2 (by rw [hok, decide_eq_true hb.1, decide_eq_true hb.2]; simp)
            clear HF2 hok ha hb hn HNB HAT
            go_wp2_with (fail)
            go_roundg g
            case measure => omega
            case rel => exact ⟨i + 1, by omega, HK2.out, HOK2.out, B2.out⟩
          · by_cases hc : n = 46
            · have HOK2 := HOK2 (by rw [hok, decide_eq_true hc]; simp)
              have f1 : (n : Int) < 97 := by omega
              have f2 : (n : Int) < 48 := by omega
              have f3 : ((n : Int) != 46) = false := by simp; omega
              clear HF2 hok ha hb hc hn HNB HAT
              go_wp2_with (fail)
              go_roundg g
              case measure => omega
              case rel => exact ⟨i + 1, by omega, HK2.out, HOK2.out, B2.out⟩
            · have f3 : ((n : Int) != 46) = true := by simp; omega
              by_cases hd : n = 45
              · have HOK2 := HOK2 (by rw [hok, decide_eq_true hd]; simp)
                have f1 : (n : Int) < 97 := by omega
                have f2 : (n : Int) < 48 := by omega
                have f4 : ((n : Int) != 45) = false := by simp; omega
                clear HF2 hok ha hb hc hd hn HNB HAT
                go_wp2_with (fail)
                go_roundg g
                case measure => omega
                case rel => exact ⟨i + 1, by omega, HK2.out, HOK2.out, B2.out⟩
              · have f4 : ((n : Int) != 45) = true := by simp; omega
                have HF := HF2 (by
                  rw [hok, decide_eq_false hc, decide_eq_false hd, Bool.or_false, Bool.or_false, Bool.or_eq_false_iff, Bool.and_eq_false_iff, Bool.and_eq_false_iff]
                  refine ⟨?_, ?_⟩
                  · by_cases h : 97 ≤ n
                    · exact .inr (decide_eq_false (fun h2 => ha ⟨h, h2⟩))
                    · exact .inl (decide_eq_false h)
                  · by_cases h : 48 ≤ n
                    · exact .inr (decide_eq_false (fun h2 => hb ⟨h, h2⟩))
                    · exact .inl (decide_eq_false h))
                clear HF2 HOK2 hok hn HNB HAT
                by_cases h1 : n < 97
                · have f1 : (n : Int) < 97 := by omega
                  by_cases h2 : n < 48
                  · have f2 : (n : Int) < 48 := by omega
                    clear ha hb hc hd h1 h2
                    go_wp2_with (fail)
                    go_ret
                    exact ⟨by rw [HF.out]; rfl, by first | exact BX | exact BX.out⟩
                  · have f2 : ¬ (n : Int) < 48 := by omega
                    have f5 : (57 : Int) < (n : Int) := by omega
                    clear ha hb hc hd h1 h2
                    go_wp2_with (fail)
                    go_ret
                    exact ⟨by rw [HF.out]; rfl, by first | exact BX | exact BX.out⟩
                · have f1 : ¬ (n : Int) < 97 := by omega
                  have f2 : (122 : Int) < (n : Int) := by omega
                  have f5 : ¬ (n : Int) < 48 := by omega
                  have f6 : (57 : Int) < (n : Int) := by omega
                  clear ha hb hc hd h1
                  go_wp2_with (fail)
                  go_ret
                  exact ⟨by rw [HF.out]; rfl, by first | exact BX | exact BX.out⟩
      · obtain ⟨r, m, hde, hr1, hr2, hn1', hns, hhi⟩ := dec_high s i hi (by rw [hx]; omega)
        have hnx := fun ty => run_next_any_at (P := Tryd.prog) wr w.heap.size s i ty hk hi
        rw [hde] at hnx
        dsimp only at hnx
        have BX := below_iterAt BEL.out (Nat.le_refl _) s (i + m)
        generalize wr.iterAt w.heap.size s (i + m) = w3 at *
        have HF := Lib.hid (HNB.out (by
          rw [hx]
          unfold okB
          rw [decide_eq_false (show ¬ x.toNat ≤ 122 by omega), decide_eq_false (show ¬ x.toNat ≤ 57 by omega), decide_eq_false (show ¬ x.toNat = 46 by omega), decide_eq_false (show ¬ x.toNat = 45 by omega), Bool.and_false, Bool.and_false]; rfl))
        have f1 : ¬ (r : Int) < 97 := by omega
        have f2 : (122 : Int) < (r : Int) := by omega
        have f3 : ¬ (r : Int) < 48 := by omega
        have f4 : (57 : Int) < (r : Int) := by omega
        have f5 : ((r : Int) != 46) = true := by simp; omega
        have f6 : ((r : Int) != 45) = true := by simp; omega
        clear hk hx hde hhi HNB HAT
        go_wp2_with (fail)
        go_ret
        exact ⟨by rw [HF.out]; rfl, by first | exact BX | exact BX.out⟩
end Go.Proofs.YtgocmfjijoibkaaDoor
