/- The document's Trim, walked. -/
import Derived.Test.YtfioigbopagogaaDoorX1
namespace Go.Proofs.YtfioigbopagogaaDoor
open Go.RowKit
set_option linter.unusedVariables false
theorem cons_of_pos {s : ByteArray} (h : 0 < s.size) : s.data.toList = s[0] :: s.data.toList.drop 1 := by
  have h' : 0 < s.data.toList.length := by rw [sz_len]; exact h
  have := List.drop_eq_getElem_cons h'
  rw [List.drop_zero] at this
  exact this
theorem snoc_of_succ {s : ByteArray} {n : Nat} (h : s.size = n + 1) : s.data.toList = s.data.toList.take n ++ [s[n]] := by
  have := byte_at s n (by omega)
  rw [← this, List.take_of_length_le (by rw [sz_len]; omega)]
theorem sz_drop {a : ByteArray} {l : List UInt8} (h : a.data.toList = l) : a.size = l.length := by rw [← h, sz_len]
def szOf : Value → Nat
  | .string a => a.size
  | _ => 0
set_option maxRecDepth 100000 in
set_option maxHeartbeats 1000000 in
theorem trimD (s : ByteArray) (w : World) (hs : s.size ≤ 9223372036854775807) :
    Calls Tryd.prog 11 #[.string s] w fun y w' => y = .returned (.string ⟨(Lib.trimS s.data.toList blanks).toArray⟩) ∧ w' = w := by
  have HT := Lib.hid (trim_lr s.data.toList)
  go_enter Tryd.func11, Tryd.ntmps11
  go_upto_region 1 with (fail)
  go_loopw [0] (fun av wr => ∃ a : ByteArray, av = .string a ∧ a.size ≤ s.size ∧ a.data.toList.dropWhile isB = s.data.toList.dropWhile isB ∧ wr = w) (fun av _ => szOf av)
  case atStart => exact ⟨s, rfl, Nat.le_refl _, rfl, rfl⟩
  case round =>
    obtain ⟨a, rfl, hsz, hd, rfl⟩ := hrel
    have hsz2 := hsz
    by_cases h0 : 0 < a.size
    · have h0' : (0 : Int) < (a.size : Int) := by omega
      have HC := Lib.hid (cons_of_pos h0)
      obtain ⟨c, hc⟩ : ∃ c, a[0] = c := ⟨_, rfl⟩
      rw [hc] at HC
      have HD := Lib.hid hd
      have BW := Lib.hid (blank_walk c wr)
      have hnx := mid_data a 1 a.size (Nat.le_refl _)
      rw [List.take_of_length_le (by rw [sz_len]; exact Nat.le_refl _)] at hnx
      have HN := Lib.hid hnx
      have hnz : (a.extract 1 a.size).size < a.size := by rw [sz_drop hnx, List.length_drop, sz_len]; omega
      clear hd hnx
      by_cases hb : isB c = true
      · go_wp2_with (fail)
        refine BW.out.mono ?_
        rintro y w1 ⟨rfl, rfl⟩
        rw [hb]
        go_wp2_with (fail)
        go_roundw
        case rel => exact ⟨_, rfl, by omega, by rw [HN.out, ← HD.out]; conv => { rhs; rw [HC.out] }; exact (List.dropWhile_cons_of_pos hb).symm, by first | rfl | trivial⟩
        case measure => exact hnz
      · have HX := Lib.hid (show a.data.toList = s.data.toList.dropWhile isB by
          rw [← HD.out]
          conv => rhs; rw [HC.out]
          rw [List.dropWhile_cons_of_neg hb, ← HC.out])
        clear HD HC HN hnz
        go_wp2_with (fail)
        refine BW.out.mono ?_
        rintro y w1 ⟨rfl, rfl⟩
        rw [Bool.eq_false_iff.2 hb]
        clear BW h0 h0' hc hb
        clear hsz
        go_upto_region 3 with (fail)
        go_loopw [0] (fun bv wr2 => ∃ b : ByteArray, bv = .string b ∧ b.size ≤ s.size ∧ b.data.toList.reverse.dropWhile isB = (s.data.toList.dropWhile isB).reverse.dropWhile isB ∧ wr2 = w1) (fun bv _ => szOf bv)
        case atStart => exact ⟨a, rfl, hsz2, by rw [HX.out], rfl⟩
        case round =>
          obtain ⟨b, rfl, hbz, hbd, rfl⟩ := hrel
          cases hn : b.size with
          | zero =>
            have h1 : ¬ (0 : Int) < (b.size : Int) := by omega
            have hbn : b.data.toList = [] := List.eq_nil_of_length_eq_zero (by rw [sz_len]; exact hn)
            have HR := Lib.hid (show b = ⟨(Lib.trimS s.data.toList blanks).toArray⟩ from ba_inj (by
              show _ = Lib.trimS s.data.toList blanks
              rw [HT.out, trimR, ← hbd, hbn]; rfl))
            clear hbd hbn hn HX HT
            go_wp2_with (fail)
            go_ret
            exact ⟨by rw [← HR.out]; rfl, by first | rfl | trivial⟩
          | succ n =>
            have h1 : (0 : Int) < (b.size : Int) := by omega
            have he : (b.size : Int) - 1 = (n : Int) := by omega
            have hnb : n < b.size := by omega
            have hn0 : (0 : Int) ≤ (n : Int) := by omega
            have hn1 : (n : Int) < (b.size : Int) := by omega
            have hn2 : n ≤ 9223372036854775807 := by omega
            have HC := Lib.hid (snoc_of_succ hn)
            obtain ⟨c, hc⟩ : ∃ c, b[n] = c := ⟨_, rfl⟩
            rw [hc] at HC
            have HBD := Lib.hid hbd
            have BW := Lib.hid (blank_walk c wr)
            obtain ⟨nx, hsl, hnx⟩ := slice_to b n (by omega) wr
            have HN := Lib.hid hnx
            have hnz : nx.size = n := by rw [sz_drop hnx, List.length_take, sz_len]; omega
            have HNN := Lib.hid hn
            clear hbd hnx hn
            by_cases hb : isB c = true
            · go_wp2_with (fail)
              refine BW.out.mono ?_
              rintro y w1 ⟨rfl, rfl⟩
              rw [hb]
              go_wp2_with (fail)
              go_roundw
              case rel => exact ⟨_, rfl, by omega, by rw [← HBD.out, HC.out, List.reverse_append, HN.out]; exact (List.dropWhile_cons_of_pos hb).symm, by first | rfl | trivial⟩
              case measure =>
                show nx.size < b.size
                omega
            · have HR := Lib.hid (show b = ⟨(Lib.trimS s.data.toList blanks).toArray⟩ from ba_inj (by
                show _ = Lib.trimS s.data.toList blanks
                rw [HT.out, trimR, ← HBD.out]
                conv => rhs; rw [HC.out, List.reverse_append]
                show b.data.toList = ((c :: (List.take n b.data.toList).reverse).dropWhile isB).reverse
                rw [List.dropWhile_cons_of_neg hb, List.reverse_cons, List.reverse_reverse, ← HC.out]))
              clear HX HT HBD HC
              go_wp2_with (fail)
              refine BW.out.mono ?_
              rintro y w1 ⟨rfl, rfl⟩
              rw [Bool.eq_false_iff.2 hb]
              go_wp2_with (fail)
              go_ret
              exact ⟨by rw [← HR.out]; rfl, by first | rfl | trivial⟩
    · have h0' : ¬ (0 : Int) < (a.size : Int) := by omega
      have HX := Lib.hid (show a.data.toList = s.data.toList.dropWhile isB by
        rw [← hd, show a.data.toList = [] from List.eq_nil_of_length_eq_zero (by rw [sz_len]; omega)]; rfl)
      clear hd
      clear hsz
      go_upto_region 3 with (fail)
      go_loopw [0] (fun bv wr2 => ∃ b : ByteArray, bv = .string b ∧ b.size ≤ s.size ∧ b.data.toList.reverse.dropWhile isB = (s.data.toList.dropWhile isB).reverse.dropWhile isB ∧ wr2 = wr) (fun bv _ => szOf bv)
      case atStart => exact ⟨a, rfl, hsz2, by rw [HX.out], rfl⟩
      case round =>
        obtain ⟨b, rfl, hbz, hbd, rfl⟩ := hrel
        cases hn : b.size with
        | zero =>
          have h1 : ¬ (0 : Int) < (b.size : Int) := by omega
          have hbn : b.data.toList = [] := List.eq_nil_of_length_eq_zero (by rw [sz_len]; exact hn)
          have HR := Lib.hid (show b = ⟨(Lib.trimS s.data.toList blanks).toArray⟩ from ba_inj (by
            show _ = Lib.trimS s.data.toList blanks
            rw [HT.out, trimR, ← hbd, hbn]; rfl))
          clear hbd hbn hn HX HT
          go_wp2_with (fail)
          go_ret
          exact ⟨by rw [← HR.out]; rfl, by first | rfl | trivial⟩
        | succ n =>
          have h1 : (0 : Int) < (b.size : Int) := by omega
          have he : (b.size : Int) - 1 = (n : Int) := by omega
          have hnb : n < b.size := by omega
          have hn0 : (0 : Int) ≤ (n : Int) := by omega
          have hn1 : (n : Int) < (b.size : Int) := by omega
          have hn2 : n ≤ 9223372036854775807 := by omega
          have HC := Lib.hid (snoc_of_succ hn)
          obtain ⟨c, hc⟩ : ∃ c, b[n] = c := ⟨_, rfl⟩
          rw [hc] at HC
          have HBD := Lib.hid hbd
          have BW := Lib.hid (blank_walk c wr)
          obtain ⟨nx, hsl, hnx⟩ := slice_to b n (by omega) wr
          have HN := Lib.hid hnx
          have hnz : nx.size = n := by rw [sz_drop hnx, List.length_take, sz_len]; omega
          have HNN := Lib.hid hn
          clear hbd hnx hn
          by_cases hb : isB c = true
          · go_wp2_with (fail)
            refine BW.out.mono ?_
            rintro y w1 ⟨rfl, rfl⟩
            rw [hb]
            go_wp2_with (fail)
            go_roundw
            case rel => exact ⟨_, rfl, by omega, by rw [← HBD.out, HC.out, List.reverse_append, HN.out]; exact (List.dropWhile_cons_of_pos hb).symm, by first | rfl | trivial⟩
            case measure =>
              show nx.size < b.size
              omega
          · have HR := Lib.hid (show b = ⟨(Lib.trimS s.data.toList blanks).toArray⟩ from ba_inj (by
              show _ = Lib.trimS s.data.toList blanks
              rw [HT.out, trimR, ← HBD.out]
              conv => rhs; rw [HC.out, List.reverse_append]
              show b.data.toList = ((c :: (List.take n b.data.toList).reverse).dropWhile isB).reverse
              rw [List.dropWhile_cons_of_neg hb, List.reverse_cons, List.reverse_reverse, ← HC.out]))
            clear HX HT HBD HC
            go_wp2_with (fail)
            refine BW.out.mono ?_
            rintro y w1 ⟨rfl, rfl⟩
            rw [Bool.eq_false_iff.2 hb]
            go_wp2_with (fail)
            go_ret
            exact ⟨by rw [← HR.out]; rfl, by first | rfl | trivial⟩
end Go.Proofs.YtfioigbopagogaaDoor
