/- IndexAny of a short text. -/
import Derived.Test.YtfioigbopagogaaDoorX7
import Derived.Test.YtfioigbopagogaaDoorX2
import Derived.Laws.RangeAny
import Derived.Lib.MapLaws
import Derived.Lib.TrimUEq
import Derived.Lib.OthersKept
namespace Go.Proofs.YtfioigbopagogaaDoor
open Go.RowKit
set_option linter.unusedVariables false
open Go.Lib
theorem getD_some {l : List UInt8} {j : Nat} {b : UInt8} (h : l[j]? = some b) : l.getD j 0 = b := by rw [List.getD_eq_getElem?_getD, h]; rfl
theorem dec_high (s : ByteArray) (pos : Nat) (h : pos < s.size) (ha : 128 ≤ (s[pos]'h).toNat) :
    ∃ r n : Nat, Utf8.decode s pos = (r, n) ∧ 128 ≤ r ∧ r ≤ 1114111 ∧ 1 ≤ n ∧ pos + n ≤ s.size ∧ ∀ j, pos ≤ j → j < pos + n → ∀ b, s.data.toList[j]? = some b → 128 ≤ b.toNat := by
  have hb0 : s.data.toList[pos]? = some (s[pos]'h) := Lib.data_getElem? s pos h
  have g0 := getD_some hb0
  have hlen : s.data.toList.length = s.size := sz_len s
  have k1 := (s.data.toList.getD (pos + 1) 0).toNat_lt
  have k2 := (s.data.toList.getD (pos + 2) 0).toNat_lt
  have k3 := (s.data.toList.getD (pos + 3) 0).toNat_lt
  rw [Lib.decode_N, hlen, g0]
  have k0 := (s[pos]'h).toNat_lt
  generalize s[pos]'h = x at *
  rcases Lib.decodeN_shape (s.size - pos) x.toNat (s.data.toList.getD (pos + 1) 0).toNat (s.data.toList.getD (pos + 2) 0).toNat (s.data.toList.getD (pos + 3) 0).toNat with ⟨c, e⟩ | ⟨c1, c2, c3, cv, e⟩ | ⟨c1, c2, c3, c4, cv, cs, e⟩ | ⟨c1, c2, c3, c4, c5, cv, cw, e⟩ | e
  · omega
  all_goals
    refine ⟨_, _, e, by omega, by omega, by omega, by omega, fun j h1 h2 b hb => ?_⟩
    have gb := getD_some hb
    have hj : j = pos ∨ j = pos + 1 ∨ j = pos + 2 ∨ j = pos + 3 := by omega
    rcases hj with rfl | rfl | rfl | rfl
    all_goals
      have gn := congrArg UInt8.toNat gb
      try rw [g0] at gn
      omega
theorem high_noB {b : UInt8} (h : 128 ≤ b.toNat) : blanks.contains b = false := by
  unfold blanks
  simp only [List.contains_eq_mem, decide_eq_false_iff_not, List.mem_cons, List.not_mem_nil, or_false]
  rintro (rfl | rfl | rfl) <;> exact absurd h (by decide)
theorem NoAny.run {s : List UInt8} {i n : Nat} (h : Lib.NoAny s blanks i) (hn : ∀ j, i ≤ j → j < i + n → ∀ b, s[j]? = some b → 128 ≤ b.toNat) : Lib.NoAny s blanks (i + n) := fun j b hj hb => by
  by_cases hji : j < i
  · exact h j b hji hb
  · exact high_noB (hn j (by omega) hj b hb)
def chB : ByteArray := ⟨#[32, 9, 13]⟩
theorem chB_list : chB.data.toList = blanks := rfl
theorem blk_iter {B : Nat} {w w1 : World} (h : Below B w w1) {k : Nat} (hk : k < B) {o : Obj} (ho : w.heap[k]? = some o) : w1.heap[k]? = some o := by rw [h.block k hk]; exact ho
theorem indexByte_blanks (x : UInt8) : decide (0 ≤ Lib.indexByte blanks x) = blanks.contains x := (Lib.contains_iff_indexByte blanks x).symm
theorem ir_walk (S : ByteArray) (r : Int) (W : World) (h1 : 0 ≤ r) (h2 : r < 128) : Calls Tryd.prog 37 #[.string S, .int .i32 r] W fun e w' => e = .returned (.int .i64 (Lib.indexByte S.data.toList r.toNat.toUInt8)) ∧ w' = W :=
  Any.strings_IndexRune_ascii (P := Tryd.prog) (ρ := Tryd.idxAny_ren) { Tryd.idxAny with } S r W h1 h2
theorem shd_walk (n : Int) (W : World) : Calls Tryd.prog 38 #[.int .i64 n] W fun e w' => e = .returned (.bool (decide (8 < n))) ∧ w' = W :=
  Any.strings_shouldUseASCIISet (P := Tryd.prog) (ρ := Tryd.idxAny_ren) { Tryd.idxAny with } n W
set_option maxRecDepth 100000 in
set_option maxHeartbeats 4000000 in
/-- IndexAny of a short text: rune by rune. -/
theorem idx_short (s S : ByteArray) (hS : S.data.toList = blanks) (w : World) (h8 : s.size ≤ 8) :
    Calls Tryd.prog 23 #[.string s, .string S] w fun e w' => e = .returned (.int .i64 (Lib.indexAny s.data.toList blanks)) ∧ Below w.heap.size w w' := by
  have SH := Lib.hid (shd_walk (s.size : Int) w)
  have h8z : decide ((8 : Int) < (s.size : Int)) = false := decide_eq_false (by omega)
  rw [h8z] at SH
  have hSz : S.size = 3 := by rw [sz_drop hS]; rfl
  have hem : S.toList.isEmpty = false := by rw [ByteArray.toList_eq, hS]; rfl
  have hn1 : ((S.size : Int) == 1) = false := beq_eq_false_iff_ne.2 (by omega)
  have HAS := Lib.hid (show ∀ i (h : i < S.size), (S[i]).toNat < 128 from fun i h => by
    have h' : i < S.data.toList.length := by rw [sz_len]; exact h
    have e : S[i] = S.data.toList[i] := rfl
    have hm : S[i] ∈ blanks := by rw [e, ← hS]; exact List.getElem_mem _
    revert hm
    generalize S[i] = c
    unfold blanks
    intro hm
    simp only [List.mem_cons, List.not_mem_nil, or_false] at hm
    rcases hm with rfl | rfl | rfl <;> decide)
  have RW := Lib.hid (fun r W h1 h2 => rune_walk S hSz HAS.out r W h1 h2)
  have IR := Lib.hid (fun (r : Int) W h1 h2 => ir_walk S r W h1 h2)
  rw [hS] at IR
  have HSL := Lib.hid (sz_len s)
  clear HAS hS
  go_enter Tryd.func23, Tryd.ntmps23
  go_wp2_with (fail)
  refine SH.out.mono ?_
  rintro y w1 ⟨rfl, rfl⟩
  clear SH h8z
  go_upto_region 18 with (fail)
  have hk0 := World.iter_heap w1 s 0
  have B0 : Below w1.heap.size w1 (w1.iter s 0) := below_iter s 0
  generalize w1.iter s 0 = w2 at *
  go_loopg [9, 10] s.size (fun g _ _ wx => ∃ i : Nat, i + g = s.size ∧ wx.heap[w1.heap.size]? = some (.stringIter s i) ∧ Lib.NoAny s.data.toList blanks i ∧ Below w1.heap.size w1 wx)
  case atStart => exact ⟨0, by omega, hk0, Lib.NoAny.zero _ _, B0⟩
  case round =>
    obtain ⟨i, hig, hk, hno, bel⟩ := hrel
    have HN := Lib.hid hno
    have BEL := Lib.hid bel
    clear hno bel hk0 B0
    cases gk with
    | zero =>
      obtain rfl : i = s.size := by omega
      have hnx := fun ty => run_next_end_at (P := Tryd.prog) wr w1.heap.size s s.size ty hk (Nat.lt_irrefl _)
      have HF := Lib.hid (show Lib.indexAny s.data.toList blanks = -1 from Lib.indexAny_none (by rw [HSL.out]; exact HN.out))
      go_wp2_with (fail)
      go_ret
      exact ⟨by rw [HF.out]; rfl, BEL.out⟩
    | succ g =>
      have hi : i < s.size := by omega
      obtain ⟨x, hx⟩ : ∃ x : UInt8, s[i]'hi = x := ⟨_, rfl⟩
      have hxl : s.data.toList[i]? = some x := by rw [← hx]; exact Lib.data_getElem? s i hi
      have HX := Lib.hid hxl
      clear hxl
      by_cases h128 : x.toNat < 128
      · have hnx := fun ty => run_next_ascii_at (P := Tryd.prog) wr w1.heap.size s i ty hk hi (by rw [hx]; exact h128)
        rw [hx] at hnx
        have hk2 := iterAt_heap wr w1.heap.size s i (i + 1) hk
        have B2 := below_iterAt BEL.out (Nat.le_refl _) s (i + 1)
        generalize wr.iterAt w1.heap.size s (i + 1) = w3 at *
        have HK2 := Lib.hid hk2
        have B2 := Lib.hid B2
        have hback : ((x.toNat : Int)).toNat.toUInt8 = x := by simp
        have CA := Lib.hid (IR.out (x.toNat : Int) w3 (by omega) (by omega))
        rw [hback] at CA
        have hcon := indexByte_blanks x
        clear hk hk2 hx hback
        cases hin : blanks.contains x
        · rw [hin] at hcon
          have hlt : ¬ ((0 : Int) ≤ Lib.indexByte blanks x) := of_decide_eq_false hcon
          clear hcon
          generalize Lib.indexByte blanks x = q at *
          go_wp2_with (fail)
          refine CA.out.mono ?_
          rintro y w4 ⟨rfl, rfl⟩
          go_wp2_with (fail)
          go_roundg g
          case measure => omega
          case rel => exact ⟨i + 1, by omega, HK2.out, HN.out.succ HX.out hin, B2.out⟩
        · rw [hin] at hcon
          have hge : (0 : Int) ≤ Lib.indexByte blanks x := of_decide_eq_true hcon
          clear hcon
          generalize Lib.indexByte blanks x = q at *
          go_wp2_with (fail)
          refine CA.out.mono ?_
          rintro y w4 ⟨rfl, rfl⟩
          go_wp2_with (fail)
          go_ret
          exact ⟨by rw [Lib.indexAny_hit HN.out HX.out hin]; rfl, B2.out⟩
      · obtain ⟨r, n, hde, hr1, hr2, hn1', hns, hhi⟩ := dec_high s i hi (by rw [hx]; omega)
        have hnx := fun ty => run_next_any_at (P := Tryd.prog) wr w1.heap.size s i ty hk hi
        rw [hde] at hnx
        dsimp only at hnx
        have hk2 := iterAt_heap wr w1.heap.size s i (i + n) hk
        have B2 := below_iterAt BEL.out (Nat.le_refl _) s (i + n)
        generalize wr.iterAt w1.heap.size s (i + n) = w3 at *
        have HK2 := Lib.hid hk2
        have B2 := Lib.hid B2
        have HNR := Lib.hid (NoAny.run HN.out hhi)
        have CA := Lib.hid (RW.out (r : Int) w3 (by omega) (by omega))
        clear hk hk2 hx hde hhi
        go_wp2_with (fail)
        refine CA.out.mono ?_
        rintro y w4 ⟨rfl, B4⟩
        have B5 := Lib.hid (B2.out.trans (B4.mono B2.out.size))
        have HK4 := Lib.hid (blk_iter B4 (Array.getElem?_eq_some_iff.1 HK2.out).1 HK2.out)
        clear B4 CA
        go_wp2_with (fail)
        go_roundg (s.size - (i + n))
        case measure => omega
        case rel => exact ⟨i + n, by omega, HK4.out, HNR.out, B5.out⟩
theorem info61 : (Tryd.prog.info? 61).isSome = true := by kernel_rfl
end Go.Proofs.YtfioigbopagogaaDoor
