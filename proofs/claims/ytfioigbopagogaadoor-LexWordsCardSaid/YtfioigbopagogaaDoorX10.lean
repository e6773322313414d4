/- The document's words. -/
import Derived.Test.YtfioigbopagogaaDoorP7
import Derived.Test.YtfioigbopagogaaDoorX3
import Derived.Deep.QuietTactic
import Derived.BigQuiet
namespace Go.Proofs.YtfioigbopagogaaDoor
open Go.RowKit
set_option linter.unusedVariables false
theorem info9 : (Tryd.prog.info? 9).map (fun i => (i.zero, i.size, i.bytes)) = some (some (.string ByteArray.empty), 1, 16) := by kernel_rfl
def cellsS (L : List ByteArray) : List Value := L.map Value.string
theorem cellsS_len (L : List ByteArray) : (cellsS L).length = L.length * 1 := by simp [cellsS]
theorem cellsS_snoc (L : List ByteArray) (s : ByteArray) : cellsS (L ++ [s]) = cellsS L ++ [.string s] := by simp [cellsS]
theorem datas_snoc (L : List ByteArray) (s : ByteArray) : datas (L ++ [s]) = datas L ++ [s.data.toList] := by simp [datas]
theorem datas_inj : ∀ {L M : List ByteArray}, datas L = datas M → L = M
  | [], [], _ => rfl
  | [], _ :: _, h => by simp [datas] at h
  | _ :: _, [], h => by simp [datas] at h
  | a :: L, b :: M, h => by
    have h' : a.data.toList :: datas L = b.data.toList :: datas M := h
    obtain ⟨h1, h2⟩ := List.cons.inj h'
    rw [ba_inj h1, datas_inj h2]
theorem RdT.of_owns {w : World} {B n m : Nat} {t : TypeId} {v : Value} {L : List ByteArray} (h : w.ownsRow B t 1 v n (cellsS L)) (hl : L.length = n) (hm : w.heap.size ≤ m) : RdT w v m L := by
  subst hl
  rcases h.2 with ⟨e, c⟩ | ⟨g, cap, cur, e, hB, hb, h1, h2, h3, h4⟩
  · have c' : L = [] := List.length_eq_zero_iff.1 c
    subst c'
    exact .inl ⟨_, _, e, rfl⟩
  · have hb' : Blk w g t cur := hb
    refine .inr ⟨g, 0, cap, e, by have := hb'.lt; omega, fun i hi => ?_⟩
    have e0 : (cellsS L)[i]? = some (.string (L.getD i ByteArray.empty)) := by
      simp [cellsS, List.getD_eq_getElem?_getD, List.getElem?_eq_getElem hi]
    rw [← h4, List.getElem?_take_of_lt (by omega), Array.getElem?_toList] at e0
    rw [Nat.zero_add, hb'.cell, e0]
theorem drop_byte (s : ByteArray) (i : Nat) (h : i < s.size) : s.data.toList.drop i = s[i] :: s.data.toList.drop (i + 1) := by
  have h' : i < s.data.toList.length := by rw [sz_len]; exact h
  rw [List.drop_eq_getElem_cons h']; rfl
theorem empty_of_zero {t : ByteArray} (h : t.size = 0) : t.data.toList = [] := List.eq_nil_of_length_eq_zero (by rw [sz_len]; exact h)
theorem isEmpty_of {t : ByteArray} {n : Nat} (h : t.size = n + 1) : t.toList.isEmpty = false ∧ t.data.toList ≠ [] := by
  rw [ByteArray.toList_eq]
  cases hq : t.data.toList with
  | nil => have := sz_len t; rw [hq] at this; simp at this; omega
  | cons a b => exact ⟨rfl, by simp⟩
def WordsSaid (s : ByteArray) (w : World) (y : Ending) (w' : World) : Prop :=
  (∃ (v : Value) (L : List ByteArray), y = .returned v ∧ datas L = wordsG [] s.data.toList ∧ L.length ≤ 5001 ∧ w'.ownsRow w.heap.size 9 1 v L.length (cellsS L)) ∧ Below w.heap.size w w'
set_option maxRecDepth 100000 in
set_option maxHeartbeats 4000000 in
/-- The document's Words. -/
theorem wordsD (s : ByteArray) (w : World) (hs : s.size ≤ 5000) : Calls Tryd.prog 14 #[.string s] w (WordsSaid s w) := by
  have HSL := Lib.hid (sz_len s)
  obtain ⟨ii, hi0, hz0, hz1, hz2⟩ := info_parts info9
  go_enter Tryd.func14, Tryd.ntmps14
  go_upto_region 4 with (fail)
  go_loopw [3, 4, 5] (fun ov wv iv wr => ∃ (i : Nat) (tb : ByteArray) (L : List ByteArray), wv = .string tb ∧ iv = .int .i64 i ∧ i ≤ s.size ∧ tb.size ≤ i ∧ L.length ≤ i ∧ wordsG [] s.data.toList = datas L ++ wordsG tb.data.toList (s.data.toList.drop i) ∧ wr.ownsRow w.heap.size 9 1 ov L.length (cellsS L) ∧ Below w.heap.size w wr) (fun _ _ iv _ => s.size - (intOf iv).toNat)
  case atStart => exact ⟨0, ⟨#[]⟩, [], rfl, rfl, Nat.zero_le _, Nat.le_refl _, Nat.le_refl _, rfl, World.ownsRow_nil _ _ _ _, Below.refl _ _⟩
  case round =>
    obtain ⟨i, tb, L, rfl, rfl, hi, htb, hLl, hwd, own, bel⟩ := hrel
    have HOW := Lib.hid own
    have BEL := Lib.hid bel
    have HWD := Lib.hid hwd
    clear own bel hwd
    have i0 : (0 : Int) ≤ i := by omega
    by_cases hlt : i < s.size
    · have hlt' : (i : Int) < (s.size : Int) := by omega
      have HDR := Lib.hid (drop_byte s i hlt)
      obtain ⟨nx, hsl, hnx⟩ := slice_one s i hlt wr
      obtain ⟨c, hc⟩ : ∃ c, s[i] = c := ⟨_, rfl⟩
      rw [hc] at HDR hnx
      have BW := Lib.hid (blank_walk c wr)
      by_cases hb : isB c = true
      · clear hsl hnx
        cases hz : tb.size with
        | zero =>
          have hem : tb.toList.isEmpty = true := by rw [ByteArray.toList_eq, empty_of_zero hz]; rfl
          have HW2 := Lib.hid (show wordsG [] s.data.toList = datas L ++ wordsG tb.data.toList (s.data.toList.drop (i + 1)) by
            rw [HWD.out, HDR.out, empty_of_zero hz, wordsG, if_pos hb, if_pos rfl])
          clear HWD HDR hz
          go_wp2_with (fail)
          refine BW.out.mono ?_
          rintro y w1 ⟨rfl, rfl⟩
          rw [hb]
          go_wp2_with (fail)
          go_roundw
          case rel => exact ⟨i + 1, tb, L, rfl, by go_num, by omega, by omega, by omega, HW2.out, HOW.out, BEL.out⟩
          case measure => simp [intOf]; omega
        | succ n =>
          obtain ⟨hem, hne⟩ := isEmpty_of hz
          have HW2 := Lib.hid (show wordsG [] s.data.toList = datas (L ++ [tb]) ++ wordsG [] (s.data.toList.drop (i + 1)) by
            rw [HWD.out, HDR.out, wordsG, if_pos hb, if_neg hne, datas_snoc, List.append_assoc]; rfl)
          clear HWD HDR hz hne
          have hva := HOW.out.alloc (.cells #[.string tb] 9)
          have hnw := Lib.hid (World.news_of_block (cs := #[.string tb]) (t := 9) (fr := (0, 0)) (heap_alloc_new wr (.cells #[.string tb] 9)))
          have hsz4 : w.heap.size ≤ (wr.alloc (.cells #[.string tb] 9)).heap.size := by have h1 := BEL.out.size; simp; omega
          go_wp2_with (fail)
          refine BW.out.mono ?_
          rintro y w1 ⟨rfl, rfl⟩
          rw [hb]
          clear BW
          go_wp2_with (at_builtin; refine wpList_append_own_at _ rfl _ _ 22 rfl w.heap.size 9 ii (.string ByteArray.empty) 1 16 Tryd.underlying22 hi0 hz0 hz1 hz2 rfl (by decide) _ L.length (cellsS L) rfl hva ⟨w1.heap.size, 0, none⟩ 1 1 [.string tb] rfl rfl hnw.out (by simp [Value.oneCell']) (by simp only [maxLen]; omega) (by omega) hsz4 ?_; intro v5 w5 own5 gr5 nil5 at5)
          have B5 := Lib.hid (below_grown' (BEL.out.alloc BEL.out.size _) gr5 (fun k e => (HOW.out.lt k e).1) hsz4)
          rw [← cellsS_snoc, show L.length + 1 = (L ++ [tb]).length by simp] at own5
          have HO5 := Lib.hid own5
          clear own5 gr5 nil5 at5 hva hsz4
          go_wp2
          go_roundw
          case rel => exact ⟨i + 1, ⟨#[]⟩, L ++ [tb], rfl, by go_num, by omega, Nat.zero_le _, by simp; omega, HW2.out, HO5.out, B5.out⟩
          case measure => simp [intOf]; omega
      · have hb' := Bool.eq_false_iff.2 hb
        have hnxs : nx.size = 1 := by rw [sz_drop hnx]; rfl
        obtain ⟨t2, ht2⟩ : ∃ z, tb ++ nx = z := ⟨_, rfl⟩
        have ht2s : t2.size ≤ i + 1 := by rw [← ht2, ByteArray.size_append]; omega
        have HW2 := Lib.hid (show wordsG [] s.data.toList = datas L ++ wordsG t2.data.toList (s.data.toList.drop (i + 1)) by
          rw [HWD.out, HDR.out, wordsG, if_neg hb, ← ht2, app_data, hnx])
        clear HWD HDR hnx hb
        go_wp2_with (fail)
        refine BW.out.mono ?_
        rintro y w1 ⟨rfl, rfl⟩
        rw [hb']
        clear BW
        go_wp2_with (fail)
        go_roundw
        case rel => exact ⟨i + 1, t2, L, rfl, by go_num, by omega, ht2s, by omega, HW2.out, HOW.out, BEL.out⟩
        case measure => simp [intOf]; omega
    · obtain rfl : i = s.size := by omega
      have HWE := Lib.hid (show wordsG [] s.data.toList = datas L ++ wordsG tb.data.toList [] by rw [HWD.out, List.drop_of_length_le (by rw [HSL.out]; exact Nat.le_refl _)])
      clear HWD
      cases hz : tb.size with
      | zero =>
        have hem : tb.toList.isEmpty = true := by rw [ByteArray.toList_eq, empty_of_zero hz]; rfl
        have HWF := Lib.hid (show datas L = wordsG [] s.data.toList by rw [HWE.out, wordsG, if_pos (empty_of_zero hz), List.append_nil])
        clear HWE hz
        go_wp2_with (fail)
        go_ret
        exact ⟨⟨_, L, rfl, HWF.out, by omega, HOW.out⟩, BEL.out⟩
      | succ n =>
        obtain ⟨hem, hne⟩ := isEmpty_of hz
        have HWF := Lib.hid (show datas (L ++ [tb]) = wordsG [] s.data.toList by rw [HWE.out, wordsG, if_neg hne, datas_snoc])
        clear HWE hz hne
        have hva := HOW.out.alloc (.cells #[.string tb] 9)
        have hnw := Lib.hid (World.news_of_block (cs := #[.string tb]) (t := 9) (fr := (0, 0)) (heap_alloc_new wr (.cells #[.string tb] 9)))
        have hsz4 : w.heap.size ≤ (wr.alloc (.cells #[.string tb] 9)).heap.size := by have h1 := BEL.out.size; simp; omega
        go_wp2_with (at_builtin; refine wpList_append_own_at _ rfl _ _ 22 rfl w.heap.size 9 ii (.string ByteArray.empty) 1 16 Tryd.underlying22 hi0 hz0 hz1 hz2 rfl (by decide) _ L.length (cellsS L) rfl hva ⟨wr.heap.size, 0, none⟩ 1 1 [.string tb] rfl rfl hnw.out (by simp [Value.oneCell']) (by simp only [maxLen]; omega) (by omega) hsz4 ?_; intro v5 w5 own5 gr5 nil5 at5)
        have B5 := Lib.hid (below_grown' (BEL.out.alloc BEL.out.size _) gr5 (fun k e => (HOW.out.lt k e).1) hsz4)
        rw [← cellsS_snoc, show L.length + 1 = (L ++ [tb]).length by simp] at own5
        have HO5 := Lib.hid own5
        clear own5 gr5 nil5 at5 hva hsz4
        go_wp2
        go_ret
        exact ⟨⟨_, L ++ [tb], rfl, HWF.out, by simp; omega, HO5.out⟩, B5.out⟩
set_option maxRecDepth 100000 in
set_option maxHeartbeats 1000000 in
theorem texts_walk (u v : Value) (L : List ByteArray) (w : World) (hu : RdT w u w.heap.size L) (hv : RdT w v w.heap.size L) (hl : L.length ≤ 65537) :
    Calls Tryd.prog 12 #[u, v] w fun x w' => x = .returned (.bool true) ∧ Below w.heap.size w w' := by
  obtain ⟨A, cap, rfl⟩ := hu.form
  obtain ⟨A2, cap2, rfl⟩ := hv.form
  have HU := Lib.hid hu
  have HV := Lib.hid hv
  clear hu hv
  have en : ((L.length : Int) != (L.length : Int)) = false := by simp
  go_enter Tryd.func12, Tryd.ntmps12
  go_upto_region 4 with (fail)
  go_loopw [5] (fun iv wr => ∃ i : Nat, iv = .int .i64 i ∧ i ≤ L.length ∧ Below w.heap.size w wr) (fun iv _ => L.length - (intOf iv).toNat)
  case atStart => exact ⟨0, rfl, Nat.zero_le _, Below.refl _ _⟩
  case round =>
    obtain ⟨i, rfl, hi, bel⟩ := hrel
    have i0 : (0 : Int) ≤ i := by omega
    by_cases hlt : i < L.length
    · obtain ⟨g, o, rfl, c0⟩ := ((HU.out.below bel (Nat.le_refl _)).wider bel.size).cell hlt
      obtain ⟨g2, o2, rfl, d0⟩ := ((HV.out.below bel (Nat.le_refl _)).wider bel.size).cell hlt
      have hlt' : (i : Int) < (L.length : Int) := by omega
      have zg := World.block_lt_of_cell? _ _ c0
      have zg2 := World.block_lt_of_cell? _ _ d0
      generalize L.getD i ByteArray.empty = E at *
      have e2 : (E.toList != E.toList) = false := by simp
      have BEL := Lib.hid bel
      clear bel HU HV
      go_upto_region 6 with (fail)
      go_quiet (fail)
      have B2 := Lib.hid (below_drewN BEL.out nq)
      clear BEL c0 d0 e2 zg zg2
      go_wp2_with (fail)
      go_roundw
      case rel => exact ⟨i + 1, by go_num, by omega, B2.out⟩
      case measure => simp [intOf]; omega
    · obtain rfl : i = L.length := by omega
      have BEL := Lib.hid bel
      clear bel
      go_wp2_with (fail)
      go_ret
      exact ⟨rfl, BEL.out⟩
end Go.Proofs.YtfioigbopagogaaDoor
