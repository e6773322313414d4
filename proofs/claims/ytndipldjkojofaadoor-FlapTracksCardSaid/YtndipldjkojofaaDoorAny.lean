/- Check, Push, Change and May of any track. -/
import Derived.Test.YtndipldjkojofaaDoorRefs
namespace Go.Proofs.YtndipldjkojofaaDoor
open Go.RowKit
/-- Any track's cells: the number and 21 states. -/
def tk (n : Int) (l : Nat → Int) : Array Value := ((List.range 22).map fun i => Value.int .i64 (if i = 0 then n else l (i - 1))).toArray
theorem tk_size (n : Int) (l : Nat → Int) : (tk n l).size = 22 := by simp [tk]
theorem tk_get (n : Int) (l : Nat → Int) (i : Nat) (h : i < 22) : (tk n l)[i]? = some (.int .i64 (if i = 0 then n else l (i - 1))) := by simp [tk, h]
theorem tk_info (n : Int) (l : Nat → Int) : (Tryd.prog.info? 24).map (·.size) = some (tk n l).size := by rw [tk_size]; kernel_rfl
theorem tk_trk (x : List Int) : trk x = tk x.length (fun j => x.getD j 0) := rfl
theorem tk_one (n : Int) (l : Nat → Int) : (tk n l).all (·.oneCell') = true := by
  rw [Array.all_eq_true]
  intro i hi
  have h := tk_get n l i (by rwa [tk_size] at hi)
  rw [Array.getElem?_eq_getElem hi] at h
  rw [Option.some.inj h]; rfl
def badS (y : Int) : Prop := y < 0 ∨ 3 < y
instance (y : Int) : Decidable (badS y) := by unfold badS; infer_instance
def mayP (n : Int) (l : Nat → Int) : Prop := 0 ≤ n ∧ n ≤ 21 ∧ ∀ i, i < 21 → 0 ≤ l i ∧ l i ≤ 3 ∧ (n ≤ (i : Int) → l i = 0)
theorem away_yes' (s : Int) (w : World) (h : badS s) : Calls Tryd.prog 12 #[.int .i64 s] w fun e w' => e = .returned (.bool true) ∧ w = w' := away_yes s w h
set_option maxRecDepth 100000 in
set_option maxHeartbeats 1000000 in
theorem index_yes (ad : Addr) (n cap : Nat) (xs : Nat → Int) (w : World) (hn : n ≤ 9223372036854775807) (hc : ∀ j, j < n → w.cell? (ad.add j) = some (.int .i64 (xs j))) (j0 : Nat) (hj0 : j0 < n) (hx : badS (xs j0)) :
    Calls Tryd.prog 19 #[.slice (some ad) n cap, .func (.func 12) #[] #[]] w fun e w' => (∃ r : Nat, e = .returned (.int .i64 r)) ∧ w = w' := by
  have HC := Lib.hid hc; have HX := Lib.hid hx
  clear hc hx
  go_enter Tryd.func19, Tryd.ntmps19
  go_upto_region 2 with (fail)
  go_loop [8, 5] (fun i _ => ∃ j : Nat, j ≤ j0 ∧ i = .int .i64 j) (fun i _ => n - (intOf i).toNat)
  case atStart => exact ⟨0, by omega, rfl⟩
  case round =>
    obtain ⟨j, hj, rfl⟩ := hrel
    have hlt : j < n := by omega
    have c := HC.out j hlt
    have j0' : (0 : Int) ≤ j := by omega
    by_cases hb : badS (xs j)
    · generalize xs j = y at c hb
      have AW := Lib.hid (fun w => away_yes' y w hb)
      clear hb
      go_wp2_with (fail)
      refine (AW.out _).mono ?_
      rintro e w1 ⟨rfl, rfl⟩
      go_wp2
      go_ret
      exact ⟨⟨j, rfl⟩, rfl⟩
    · have hne : j ≠ j0 := fun e => hb (e ▸ HX.out)
      generalize xs j = y at c hb
      have AW := Lib.hid (fun w => away_no y w (by unfold badS at hb; omega) (by unfold badS at hb; omega))
      clear hb
      go_wp2_with (fail)
      refine (AW.out _).mono ?_
      rintro e w1 ⟨rfl, rfl⟩
      go_wp2
      go_round
      case rel => exact ⟨j + 1, by omega, by go_num⟩
      case measure => simp [intOf]; omega
theorem contains_yes (ad : Addr) (n cap : Nat) (xs : Nat → Int) (w : World) (hn : n ≤ 9223372036854775807) (hc : ∀ j, j < n → w.cell? (ad.add j) = some (.int .i64 (xs j))) (j0 : Nat) (hj0 : j0 < n) (hx : badS (xs j0)) :
    Calls Tryd.prog 14 #[.slice (some ad) n cap, .func (.func 12) #[] #[]] w fun e w' => e = .returned (.bool true) ∧ w = w' := by
  have H := Lib.hid (index_yes ad n cap xs w hn hc j0 hj0 hx)
  clear hc hx
  go_enter Tryd.func14, Tryd.ntmps14
  go_wp2_with (fail)
  refine H.out.mono ?_
  rintro e w1 ⟨⟨r, rfl⟩, rfl⟩
  have r0 : (0 : Int) ≤ r := by omega
  go_wp2
  go_ret
  exact ⟨rfl, rfl⟩
def eA : Value := .iface 38 (.int .i64 1)
set_option maxRecDepth 100000 in
set_option maxHeartbeats 1000000 in
theorem check_num (n : Int) (l : Nat → Int) (w : World) (hn : n < 0 ∨ 21 < n) : Calls Tryd.prog 7 #[.agg (tk n l)] w fun e w' => e = .returned eA ∧ Below w.heap.size w w' := by
  have hb := Blk.new w 24 (tk n l)
  have c0 : (w.alloc (.cells (tk n l) 24)).cell? ⟨w.heap.size, 0, none⟩ = some (.int .i64 n) := by rw [hb.cell, tk_get _ _ _ (by omega)]; rfl
  have B0 := below_al (Below.refl w.heap.size w) (.cells (tk n l) 24)
  have zl := hb.lt
  clear hb
  rcases hn with h | h
  · have d0 : decide (n < 0) = true := decide_eq_true h
    go_enter Tryd.func7, Tryd.ntmps7
    go_upto_region 1 with (fail)
    generalize w.alloc (Obj.cells (tk n l) 24) = W at *
    go_wp2
    go_ret
    exact ⟨rfl, B0⟩
  · have d0 : decide (n < 0) = false := decide_eq_false (by omega)
    have d1 : decide (21 < n) = true := decide_eq_true h
    go_enter Tryd.func7, Tryd.ntmps7
    go_upto_region 1 with (fail)
    generalize w.alloc (Obj.cells (tk n l) 24) = W at *
    go_wp2
    go_ret
    exact ⟨rfl, B0⟩
set_option maxRecDepth 100000 in
set_option maxHeartbeats 1000000 in
theorem check_state (n : Int) (l : Nat → Int) (w : World) (h0 : 0 ≤ n) (h1 : n ≤ 21) (j0 : Nat) (hj : j0 < 21) (hb0 : badS (l j0)) : Calls Tryd.prog 7 #[.agg (tk n l)] w fun e w' => e = .returned eA ∧ Below w.heap.size w w' := by
  have hb := Blk.new w 24 (tk n l)
  have hcell : ∀ j, j < 21 → (w.alloc (.cells (tk n l) 24)).cell? ((⟨w.heap.size, 1, none⟩ : Addr).add j) = some (.int .i64 (l j)) := fun j hj => by rw [add_one, hb.cell, tk_get _ _ _ (by omega), if_neg (by omega), Nat.add_sub_cancel_left]
  have c0 : (w.alloc (.cells (tk n l) 24)).cell? ⟨w.heap.size, 0, none⟩ = some (.int .i64 n) := by rw [hb.cell, tk_get _ _ _ (by omega)]; rfl
  have B0 := below_al (Below.refl w.heap.size w) (.cells (tk n l) 24)
  have HC := Lib.hid (contains_yes ⟨w.heap.size, 1, none⟩ 21 21 l _ (by decide) hcell j0 hj hb0)
  clear hcell hb hb0
  have d0 : decide (n < 0) = false := decide_eq_false (by omega)
  have d1 : decide (21 < n) = false := decide_eq_false (by omega)
  go_enter Tryd.func7, Tryd.ntmps7
  go_upto_region 1 with (fail)
  generalize w.alloc (Obj.cells (tk n l) 24) = W at *
  go_wp2_with (fail)
  refine HC.out.mono ?_
  rintro e w1 ⟨rfl, rfl⟩
  go_wp2
  go_ret
  exact ⟨rfl, B0⟩
set_option maxRecDepth 100000 in
set_option maxHeartbeats 1000000 in
theorem check_tail (n : Nat) (l : Nat → Int) (w : World) (hok : ∀ j, j < 21 → 0 ≤ l j ∧ l j ≤ 3) (j0 : Nat) (hj0 : j0 < 21) (hn : n ≤ j0) (hz : l j0 ≠ 0) : Calls Tryd.prog 7 #[.agg (tk n l)] w fun e w' => e = .returned eA ∧ Below w.heap.size w w' := by
  have hb := Blk.new w 24 (tk n l)
  have hcell : ∀ j, j < 21 → (w.alloc (.cells (tk n l) 24)).cell? ((⟨w.heap.size, 1, none⟩ : Addr).add j) = some (.int .i64 (l j)) := fun j hj => by rw [add_one, hb.cell, tk_get _ _ _ (by omega), if_neg (by omega), Nat.add_sub_cancel_left]
  have c0 : (w.alloc (.cells (tk n l) 24)).cell? ⟨w.heap.size, 0, none⟩ = some (.int .i64 n) := by rw [hb.cell, tk_get _ _ _ (by omega)]; rfl
  have B0 := below_al (Below.refl w.heap.size w) (.cells (tk n l) 24)
  have HC := Lib.hid (contains_no ⟨w.heap.size, 1, none⟩ 21 21 l _ (by decide) hcell (fun j hj => hok j hj))
  have HCELL := Lib.hid hcell
  have HZ := Lib.hid hz
  clear hcell hb hok hz
  go_enter Tryd.func7, Tryd.ntmps7
  go_upto_region 1 with (fail)
  generalize w.alloc (Obj.cells (tk n l) 24) = W at *
  have n0 : decide ((n : Int) < 0) = false := decide_eq_false (by omega)
  have n1 : decide (21 < (n : Int)) = false := decide_eq_false (by omega)
  have n2 : (n : Int) ≤ 21 := by omega
  have n3 : (0 : Int) ≤ n := by omega
  go_wp2_with (fail)
  refine HC.out.mono ?_
  rintro e w1 ⟨rfl, rfl⟩
  have hlt : n < 21 := by omega
  have hlt' : (n : Int) < 21 := by omega
  go_upto_region 4 with (fail)
  generalize hm : 21 - n = m at *
  have hm1 : n + m = 21 := by omega
  clear hm
  go_loop [24, 4] (fun i _ => ∃ j : Nat, n + j ≤ j0 ∧ i = .int .i64 j) (fun i _ => m - (intOf i).toNat)
  case atStart => exact ⟨0, by omega, rfl⟩
  case round =>
    obtain ⟨j, hj, rfl⟩ := hrel
    have hjm : j < m := by omega
    have c := HCELL.out (n + j) (by omega)
    rw [add_one] at c
    rw [← Nat.add_assoc] at c
    have j0' : (0 : Int) ≤ j := by omega
    by_cases hy : l (n + j) = 0
    · have hne : n + j ≠ j0 := fun e => HZ.out (e ▸ hy)
      rw [hy] at c
      clear hy
      go_wp2
      go_round
      case rel => exact ⟨j + 1, by omega, by go_num⟩
      case measure => simp [intOf]; omega
    · generalize l (n + j) = y at *
      have hyb : (y != 0) = true := bne_iff_ne.2 hy
      go_wp2
      go_ret
      exact ⟨rfl, B0⟩
theorem check_bad (n : Int) (l : Nat → Int) (w : World) (h : ¬ mayP n l) : Calls Tryd.prog 7 #[.agg (tk n l)] w fun e w' => e = .returned eA ∧ Below w.heap.size w w' := by
  by_cases h0 : 0 ≤ n ∧ n ≤ 21
  · by_cases hs : ∀ i, i < 21 → ¬ badS (l i)
    · obtain ⟨m, rfl⟩ := Int.eq_ofNat_of_zero_le h0.1
      have : ∃ j0 : Nat, j0 < 21 ∧ m ≤ j0 ∧ l j0 ≠ 0 := by
        refine Classical.byContradiction fun hn => h ⟨h0.1, h0.2, fun i hi => ⟨?_, ?_, fun hm => ?_⟩⟩
        · have := hs i hi; unfold badS at this; omega
        · have := hs i hi; unfold badS at this; omega
        · exact Classical.byContradiction fun hz => hn ⟨i, hi, by omega, hz⟩
      obtain ⟨j0, hj, hm, hz⟩ := this
      exact check_tail m l w (fun j hj => by have := hs j hj; unfold badS at this; omega) j0 hj hm hz
    · have : ∃ j0 : Nat, j0 < 21 ∧ badS (l j0) := Classical.byContradiction fun hn => hs fun i hi hb => hn ⟨i, hi, hb⟩
      obtain ⟨j0, hj, hb⟩ := this
      exact check_state n l w h0.1 h0.2 j0 hj hb
  · exact check_num n l w (by omega)
set_option maxRecDepth 100000 in
set_option maxHeartbeats 2000000 in
theorem change_bad (n : Int) (l : Nat → Int) (w : World) (h : ¬ mayP n l) : Calls Tryd.prog 8 #[.agg (tk n l)] w fun e w' => e = .returned (.int .i64 0) ∧ Below w.heap.size w w' := by
  have hb := Blk.new w 24 (tk n l)
  have HC := Lib.hid (fun w => check_bad n l w h)
  have B0 := below_al (Below.refl w.heap.size w) (.cells (tk n l) 24)
  unfold eA at HC
  go_enter Tryd.func8, Tryd.ntmps8
  go_upto_region 1 with (fail)
  generalize w.alloc (Obj.cells (tk n l) 24) = W at *
  generalize hg : w.heap.size = g at *
  unfold Blk at hb
  have HB := Lib.hid hb
  clear hb
  go_wp2_with (first | refine wpList_load_row rfl 24 _ rfl g rfl 24 (tk n l) (0, 0) _ HB.out Tryd.underlying24 rfl (tk_info _ _) ?_)
  refine (HC.out _).mono ?_
  rintro e w1 ⟨rfl, hb1⟩
  have B1 : Below g w w1 := B0.trans (hb1.mono (by have := B0.size; omega))
  clear HC hb1 B0 HB
  go_wp2
  go_ret
  exact ⟨rfl, by rw [hg]; exact B1⟩
set_option maxRecDepth 100000 in
set_option maxHeartbeats 2000000 in
theorem push_no (n : Int) (l : Nat → Int) (s : Int) (w : World) (h : ¬ mayP n l) : Calls Tryd.prog 4 #[.agg (tk n l), .int .i64 s] w fun e w' => e = .returned (.agg (tk n l)) ∧ Below w.heap.size w w' := by
  have hb := (Blk.new w 24 (tk n l)).alloc (.cells (trk []) 24)
  have hb4 := Blk.new1 w (.cells (tk n l) 24) 24 (trk [])
  have HC := Lib.hid (fun w => check_bad n l w h)
  have B0 := below_al (below_al (Below.refl w.heap.size w) (.cells (tk n l) 24)) (.cells (trk []) 24)
  rw [trk_nil] at hb hb4 B0
  unfold eA at HC
  go_enter Tryd.func4, Tryd.ntmps4
  go_upto_region 1 with (fail)
  generalize (w.alloc (Obj.cells (tk n l) 24)).alloc (Obj.cells #[Value.int IntKind.i64 0, Value.int IntKind.i64 0, Value.int IntKind.i64 0, Value.int IntKind.i64 0, Value.int IntKind.i64 0, Value.int IntKind.i64 0, Value.int IntKind.i64 0, Value.int IntKind.i64 0, Value.int IntKind.i64 0, Value.int IntKind.i64 0, Value.int IntKind.i64 0, Value.int IntKind.i64 0, Value.int IntKind.i64 0, Value.int IntKind.i64 0, Value.int IntKind.i64 0, Value.int IntKind.i64 0, Value.int IntKind.i64 0, Value.int IntKind.i64 0, Value.int IntKind.i64 0, Value.int IntKind.i64 0, Value.int IntKind.i64 0, Value.int IntKind.i64 0] 24) = W at *
  generalize hg : w.heap.size = g at *
  unfold Blk at hb
  have HB := Lib.hid hb
  have HB4 := Lib.hid hb4
  clear hb4
  go_wp2_with (first | refine wpList_load_row rfl 24 _ rfl g rfl 24 (tk n l) (0, 0) _ HB.out Tryd.underlying24 rfl (tk_info _ _) ?_)
  refine (HC.out _).mono ?_
  rintro e w1 ⟨rfl, hb1⟩
  have b1 : Blk w1 g 24 (tk n l) := Blk.below hb hb1
  have b4 := HB4.out.below hb1
  have B1 : Below g w w1 := B0.trans (hb1.mono (by have := B0.size; omega))
  clear HB hb hb1 HC HB4 B0
  unfold Blk at b1 b4
  have HB := Lib.hid b1
  have HB4 := Lib.hid b4
  clear b1 b4
  go_wp2_with (first | refine wpList_load_row rfl 24 _ rfl g rfl 24 (tk n l) (0, 0) _ HB.out Tryd.underlying24 rfl (tk_info _ _) ?_ | refine wpList_store_row rfl 24 _ _ rfl (g + 1) (tk n l) rfl rfl 24 _ HB4.out (tk_info _ _) (by rw [tk_size]; rfl) (tk_one _ _) ?_)
  have b5 : Blk (w1.setRow (g + 1) (tk n l)) (g + 1) 24 (tk n l) := blk_setRow HB4.out
  refine bodyPost_ret (v := .agg (tk n l)) (res_cell (p := 4) rfl _ _ (g + 1) 24 _ _ rfl b5 Tryd.underlying24 rfl (tk_info _ _)) rfl ⟨rfl, ?_⟩
  rw [hg]
  exact below_setRow B1 (by omega) _
/-- 21 states as an array. -/
def ar (l : Nat → Int) : Array Value := ((List.range 21).map fun i => Value.int .i64 (l i)).toArray
theorem ar_size (l : Nat → Int) : (ar l).size = 21 := by simp [ar]
theorem ar_get (l : Nat → Int) (i : Nat) (h : i < 21) : (ar l)[i]? = some (.int .i64 (l i)) := by simp [ar, h]
theorem ar_info (l : Nat → Int) : (Tryd.prog.info? 22).map (·.size) = some (ar l).size := by rw [ar_size]; kernel_rfl
set_option maxRecDepth 100000 in
set_option maxHeartbeats 2000000 in
theorem may_num (n : Int) (l : Nat → Int) (w : World) (h : n < 0 ∨ 21 < n) : Calls Tryd.prog 5 #[.int .i64 n, .agg (ar l)] w fun e w' => e = .returned (.bool false) ∧ Below w.heap.size w w' := by
  have B0 := below_al (Below.refl w.heap.size w) (.cells (ar l) 22)
  rcases h with h | h
  · have d0 : decide (n < 0) = true := decide_eq_true h
    go_enter Tryd.func5, Tryd.ntmps5
    go_wp2
    go_ret
    exact ⟨rfl, B0⟩
  · have d0 : decide (n < 0) = false := decide_eq_false (by omega)
    have d1 : decide (21 < n) = true := decide_eq_true h
    go_enter Tryd.func5, Tryd.ntmps5
    go_wp2
    go_ret
    exact ⟨rfl, B0⟩
def fineAt (n : Int) (l : Nat → Int) (i : Nat) : Prop := 0 ≤ l i ∧ l i ≤ 3 ∧ (n ≤ (i : Int) → l i = 0)
instance (n : Int) (l : Nat → Int) (i : Nat) : Decidable (fineAt n l i) := by unfold fineAt; infer_instance
set_option maxRecDepth 100000 in
set_option maxHeartbeats 4000000 in
theorem may_in (n : Int) (l : Nat → Int) (b : Bool) (hbm : b = true ↔ mayP n l) (w : World) (h0 : 0 ≤ n) (h1 : n ≤ 21) : Calls Tryd.prog 5 #[.int .i64 n, .agg (ar l)] w fun e w' => e = .returned (.bool b) ∧ Below w.heap.size w w' := by
  have hb := Blk.new w 22 (ar l)
  have hcell : ∀ j, j < 21 → (w.alloc (.cells (ar l) 22)).cell? ⟨w.heap.size, j, none⟩ = some (.int .i64 (l j)) := fun j hj => by rw [hb.cell, ar_get _ _ (by omega)]
  have HC := Lib.hid hcell
  have B0 := below_al (Below.refl w.heap.size w) (.cells (ar l) 22)
  have HM := Lib.hid hbm
  clear hbm
  have d0 : decide (n < 0) = false := decide_eq_false (by omega)
  have d1 : decide (21 < n) = false := decide_eq_false (by omega)
  clear hb hcell
  go_enter Tryd.func5, Tryd.ntmps5
  go_upto_region 4 with (fail)
  generalize w.alloc (Obj.cells (ar l) 22) = W at *
  go_loop [5] (fun i => ∃ j : Nat, j ≤ 21 ∧ i = .int .i64 j ∧ ∀ k, k < j → fineAt n l k) (fun i => 21 - (intOf i).toNat)
  case atStart => exact ⟨0, by omega, rfl, fun k h => by omega⟩
  case round =>
    obtain ⟨j, hj, rfl, hall⟩ := hrel
    by_cases hlt : j < 21
    · have c := HC.out j hlt
      have j0' : (0 : Int) ≤ j := by omega
      by_cases hf : fineAt n l j
      · have hall' := Lib.hid (show ∀ k, k < j + 1 → fineAt n l k from fun k hk => by
          rcases (by omega : k < j ∨ k = j) with h | rfl
          · exact hall k h
          · exact hf)
        obtain ⟨f0, f3, fz⟩ := hf
        have fz' : (n : Int) ≤ j → l j = 0 := fz
        clear fz hall
        generalize l j = y at *
        have e0 : decide (y < 0) = false := decide_eq_false (by omega)
        have e3 : decide (3 < y) = false := decide_eq_false (by omega)
        by_cases hnj : n ≤ (j : Int)
        · obtain rfl := fz' hnj
          have en : decide (n ≤ (j : Int)) = true := decide_eq_true hnj
          clear fz'
          go_wp2
          go_round
          case rel => exact ⟨j + 1, by omega, by go_num, hall'.out⟩
          case measure => simp [intOf]; omega
        · have en : decide (n ≤ (j : Int)) = false := decide_eq_false hnj
          clear fz'
          go_wp2
          go_round
          case rel => exact ⟨j + 1, by omega, by go_num, hall'.out⟩
          case measure => simp [intOf]; omega
      · have hno : ¬ mayP n l := fun h => hf (h.2.2 j hlt)
        obtain rfl : b = false := by
          cases b
          · rfl
          · exact absurd (HM.out.1 rfl) hno
        have hf' : l j < 0 ∨ 3 < l j ∨ (0 ≤ l j ∧ l j ≤ 3 ∧ n ≤ (j : Int) ∧ l j ≠ 0) := by
          unfold fineAt at hf
          by_cases a : l j < 0
          · exact Or.inl a
          · by_cases b : 3 < l j
            · exact Or.inr (Or.inl b)
            · refine Or.inr (Or.inr ⟨by omega, by omega, ?_⟩)
              refine Classical.byContradiction fun hc => hf ⟨by omega, by omega, fun hn => Classical.byContradiction fun hz => hc ⟨hn, hz⟩⟩
        clear hf hno hall
        generalize l j = y at *
        rcases hf' with h | h | ⟨f0, f3, hn, hz⟩
        · have e0 : decide (y < 0) = true := decide_eq_true h
          go_wp2
          go_ret
          exact ⟨rfl, B0⟩
        · have e0 : decide (y < 0) = false := decide_eq_false (by omega)
          have e3 : decide (3 < y) = true := decide_eq_true h
          go_wp2
          go_ret
          exact ⟨rfl, B0⟩
        · have e0 : decide (y < 0) = false := decide_eq_false (by omega)
          have e3 : decide (3 < y) = false := decide_eq_false (by omega)
          have en : decide (n ≤ (j : Int)) = true := decide_eq_true hn
          have ez : (y != 0) = true := bne_iff_ne.2 hz
          go_wp2
          go_ret
          exact ⟨rfl, B0⟩
    · obtain rfl : j = 21 := by omega
      obtain rfl : b = true := HM.out.2 ⟨h0, h1, fun i hi => hall i hi⟩
      clear hall
      go_wp2
      go_ret
      exact ⟨rfl, B0⟩
theorem may_walk (n : Int) (l : Nat → Int) (b : Bool) (hbm : b = true ↔ mayP n l) (w : World) : Calls Tryd.prog 5 #[.int .i64 n, .agg (ar l)] w fun e w' => e = .returned (.bool b) ∧ Below w.heap.size w w' := by
  by_cases h : 0 ≤ n ∧ n ≤ 21
  · exact may_in n l b hbm w h.1 h.2
  · obtain rfl : b = false := by
      cases b
      · rfl
      · exact absurd ⟨(hbm.1 rfl).1, (hbm.1 rfl).2.1⟩ h
    exact may_num n l w (by omega)
end Go.Proofs.YtndipldjkojofaaDoor
