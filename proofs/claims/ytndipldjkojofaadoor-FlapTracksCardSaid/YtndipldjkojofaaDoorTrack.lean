/- A track of states: flap's Check, Change and Push, walked. -/
import Derived.Test.YtndipldjkojofaaDoorBase
import Derived.Laws.CopyOwn
namespace Go.Proofs.YtndipldjkojofaaDoor
open Go.RowKit
/-- A track's cells: how many states, and the states, with 0 behind them. -/
def cellT (x : List Int) (i : Nat) : Int := if i = 0 then (x.length : Int) else x.getD (i - 1) 0
def trk (x : List Int) : Array Value := ((List.range 22).map fun i => Value.int .i64 (cellT x i)).toArray
theorem trk_size (x : List Int) : (trk x).size = 22 := by simp [trk]
theorem trk_get (x : List Int) (i : Nat) (h : i < 22) : (trk x)[i]? = some (.int .i64 (cellT x i)) := by simp [trk, h]
/-- A list of states that a track may hold. -/
def okT (x : List Int) : Prop := x.length ≤ 21 ∧ ∀ j, 0 ≤ x.getD j 0 ∧ x.getD j 0 ≤ 3
theorem away_walk (s : Int) (w : World) : Calls Tryd.prog 12 #[.int .i64 s] w fun e w' => e = .returned (.bool (decide (s < 0) || decide (3 < s))) ∧ w = w' := by
  by_cases h0 : s < 0
  · have d : decide (s < 0) = true := decide_eq_true h0
    clear h0
    rw [d]
    go_enter Tryd.func12, Tryd.ntmps12
    go_wp2
    go_ret
    exact ⟨rfl, rfl⟩
  · have d : decide (s < 0) = false := decide_eq_false h0
    clear h0
    rw [d]
    go_enter Tryd.func12, Tryd.ntmps12
    go_wp2
    go_ret
    exact ⟨rfl, rfl⟩
theorem away_no (s : Int) (w : World) (h1 : 0 ≤ s) (h2 : s ≤ 3) : Calls Tryd.prog 12 #[.int .i64 s] w fun e w' => e = .returned (.bool false) ∧ w = w' := by
  have h := away_walk s w
  rw [show (decide (s < 0) || decide (3 < s)) = false by simp; omega] at h
  exact h
set_option maxRecDepth 100000 in
set_option maxHeartbeats 1000000 in
theorem index_no (ad : Addr) (n cap : Nat) (xs : Nat → Int) (w : World) (hn : n ≤ 9223372036854775807) (hc : ∀ j, j < n → w.cell? (ad.add j) = some (.int .i64 (xs j))) (hx : ∀ j, j < n → 0 ≤ xs j ∧ xs j ≤ 3) :
    Calls Tryd.prog 19 #[.slice (some ad) n cap, .func (.func 12) #[] #[]] w fun e w' => e = .returned (.int .i64 (-1)) ∧ w = w' := by
  have HC := Lib.hid hc; have HX := Lib.hid hx
  clear hc hx
  go_enter Tryd.func19, Tryd.ntmps19
  go_upto_region 2 with (fail)
  go_loop [8, 5] (fun i _ => ∃ j : Nat, j ≤ n ∧ i = .int .i64 j) (fun i _ => n - (intOf i).toNat)
  case atStart => exact ⟨0, by omega, rfl⟩
  case round =>
    obtain ⟨j, hj, rfl⟩ := hrel
    by_cases hlt : j < n
    · have c := HC.out j hlt
      obtain ⟨y1, y2⟩ := HX.out j hlt
      generalize xs j = y at c y1 y2
      have AW := Lib.hid (fun w => away_no y w y1 y2)
      clear y1 y2
      have j0 : (0 : Int) ≤ j := by omega
      go_wp2_with (fail)
      refine (AW.out _).mono ?_
      rintro e w1 ⟨rfl, rfl⟩
      go_wp2
      go_round
      case rel => exact ⟨j + 1, by omega, by go_num⟩
      case measure => simp [intOf]; omega
    · go_wp2
      go_ret
      exact ⟨rfl, rfl⟩
theorem contains_no (ad : Addr) (n cap : Nat) (xs : Nat → Int) (w : World) (hn : n ≤ 9223372036854775807) (hc : ∀ j, j < n → w.cell? (ad.add j) = some (.int .i64 (xs j))) (hx : ∀ j, j < n → 0 ≤ xs j ∧ xs j ≤ 3) :
    Calls Tryd.prog 14 #[.slice (some ad) n cap, .func (.func 12) #[] #[]] w fun e w' => e = .returned (.bool false) ∧ w = w' := by
  have H := Lib.hid (index_no ad n cap xs w hn hc hx)
  clear hc hx
  go_enter Tryd.func14, Tryd.ntmps14
  go_wp2_with (fail)
  refine H.out.mono ?_
  rintro e w1 ⟨rfl, rfl⟩
  go_wp2
  go_ret
  exact ⟨rfl, rfl⟩
theorem load_trk {x : List Int} {w : World} {g : Nat} (hb : Blk w g 24 (trk x)) : (loadVar 24 ⟨g, 0, none⟩).run Tryd.prog w = .ok (.agg (trk x)) w :=
  run_loadVar_row w g 24 24 (trk x) (0, 0) _ hb Tryd.underlying24 rfl (by rw [trk_size]; kernel_rfl)
theorem getD_out (x : List Int) (j : Nat) (h : x.length ≤ j) : x.getD j 0 = 0 := by simp [List.getD, List.getElem?_eq_none h]
theorem add_one (g j : Nat) : (⟨g, 1, none⟩ : Addr).add j = ⟨g, 1 + j, none⟩ := by
  unfold Addr.add; split
  · subst_vars; rfl
  · rfl
theorem cell_pos (x : List Int) (j : Nat) : cellT x (1 + j) = x.getD j 0 := by unfold cellT; rw [if_neg (by omega), Nat.add_sub_cancel_left]
set_option maxRecDepth 100000 in
set_option maxHeartbeats 1000000 in
theorem check_ok (x : List Int) (w : World) (hx : okT x) : Calls Tryd.prog 7 #[.agg (trk x)] w fun e w' => e = .returned .nilIface ∧ Below w.heap.size w w' := by
  have hb := Blk.new w 24 (trk x)
  have hcell : ∀ j, j < 21 → (w.alloc (.cells (trk x) 24)).cell? ((⟨w.heap.size, 1, none⟩ : Addr).add j) = some (.int .i64 (x.getD j 0)) := fun j hj => by rw [add_one, hb.cell, trk_get _ _ (by omega), cell_pos]
  have c0 : (w.alloc (.cells (trk x) 24)).cell? ⟨w.heap.size, 0, none⟩ = some (.int .i64 x.length) := by rw [hb.cell, trk_get _ _ (by omega)]; rfl
  have B0 := below_al (Below.refl w.heap.size w) (.cells (trk x) 24)
  obtain ⟨hl, hv⟩ := hx
  have HC := Lib.hid (contains_no ⟨w.heap.size, 1, none⟩ 21 21 (fun j => x.getD j 0) _ (by decide) hcell (fun j _ => hv j))
  have HCELL := Lib.hid hcell
  clear hcell hb hv
  go_enter Tryd.func7, Tryd.ntmps7
  go_upto_region 1 with (fail)
  generalize w.alloc (Obj.cells (trk x) 24) = W at *
  generalize hn : x.length = n at *
  have n0 : decide ((n : Int) < 0) = false := decide_eq_false (by omega)
  have n1 : decide (21 < (n : Int)) = false := decide_eq_false (by omega)
  have HN := Lib.hid hn
  clear hn
  have n2 : (n : Int) ≤ 21 := by omega
  have n3 : (0 : Int) ≤ n := by omega
  go_wp2_with (fail)
  refine HC.out.mono ?_
  rintro e w1 ⟨rfl, rfl⟩
  rcases (by omega : n = 21 ∨ n < 21) with rfl | hlt
  · go_upto_region 4 with (fail)
    go_loop [24, 4] (fun i _ => i = .int .i64 0) (fun _ _ => 0)
    case atStart => rfl
    case round =>
      subst hrel
      go_wp2
      go_ret
      exact ⟨rfl, B0⟩
  · have hlt' : (n : Int) < 21 := by omega
    go_upto_region 4 with (fail)
    generalize hm : 21 - n = m at *
    have hm1 : n + m = 21 := by omega
    clear hm
    go_loop [24, 4] (fun i _ => ∃ j : Nat, j ≤ m ∧ i = .int .i64 j) (fun i _ => m - (intOf i).toNat)
    case atStart => exact ⟨0, by omega, rfl⟩
    case round =>
      obtain ⟨j, hj, rfl⟩ := hrel
      by_cases hjm : j < m
      · have c := HCELL.out (n + j) (by omega)
        rw [add_one, getD_out x (n + j) (by rw [HN.out]; omega)] at c
        rw [← Nat.add_assoc] at c
        have j0 : (0 : Int) ≤ j := by omega
        go_wp2
        go_round
        case rel => exact ⟨j + 1, by omega, by go_num⟩
        case measure => simp [intOf]; omega
      · go_wp2
        go_ret
        exact ⟨rfl, B0⟩
theorem trk_lit (x : List Int) : trk x = #[.int .i64 (cellT x 0), .int .i64 (cellT x 1), .int .i64 (cellT x 2), .int .i64 (cellT x 3), .int .i64 (cellT x 4), .int .i64 (cellT x 5), .int .i64 (cellT x 6), .int .i64 (cellT x 7), .int .i64 (cellT x 8), .int .i64 (cellT x 9), .int .i64 (cellT x 10), .int .i64 (cellT x 11), .int .i64 (cellT x 12), .int .i64 (cellT x 13), .int .i64 (cellT x 14), .int .i64 (cellT x 15), .int .i64 (cellT x 16), .int .i64 (cellT x 17), .int .i64 (cellT x 18), .int .i64 (cellT x 19), .int .i64 (cellT x 20), .int .i64 (cellT x 21)] := rfl
theorem trk_info (x : List Int) : (Tryd.prog.info? 24).map (·.size) = some (trk x).size := by rw [trk_size]; kernel_rfl
def chgS (x : List Int) : Nat → Int
  | 0 => 0
  | i + 1 => chgS x i + (if x.getD (i + 1) 0 = x.getD i 0 then 0 else 1140 - 20 * ((x.length : Int) - 1 - (i + 1)))
def chgF (x : List Int) : Int := chgS x (x.length - 1)
theorem chgS_bd (x : List Int) (hl : x.length ≤ 21) : ∀ k, k < x.length → 0 ≤ chgS x k ∧ chgS x k ≤ 1140 * k
  | 0, _ => by simp [chgS]
  | k + 1, h => by
    have ih := chgS_bd x hl k (by omega)
    rw [chgS]
    push_cast
    split <;> omega
set_option maxRecDepth 100000 in
set_option maxHeartbeats 2000000 in
theorem change_walk (x : List Int) (w : World) (hx : okT x) : Calls Tryd.prog 8 #[.agg (trk x)] w fun e w' => e = .returned (.int .i64 (chgF x)) ∧ Below w.heap.size w w' := by
  have hb := Blk.new w 24 (trk x)
  have HC := Lib.hid (fun w => check_ok x w hx)
  have B0 := below_al (Below.refl w.heap.size w) (.cells (trk x) 24)
  go_enter Tryd.func8, Tryd.ntmps8
  go_upto_region 1 with (fail)
  generalize w.alloc (Obj.cells (trk x) 24) = W at *
  generalize hg : w.heap.size = g at *
  unfold Blk at hb
  have HB := Lib.hid hb
  go_wp2_with (first | refine wpList_load_row rfl 24 _ rfl g rfl 24 (trk x) (0, 0) _ HB.out Tryd.underlying24 rfl (trk_info x) ?_)
  refine (HC.out _).mono ?_
  rintro e w1 ⟨rfl, hb1⟩
  have b1 : Blk w1 g 24 (trk x) := Blk.below hb hb1
  have B1 : Below g w w1 := B0.trans (hb1.mono (by have := B0.size; omega))
  clear HB hb hb1 HC
  have HB := Lib.hid b1
  have zl := b1.lt
  have c0 : w1.cell? ⟨g, 0, none⟩ = some (.int .i64 x.length) := by rw [b1.cell, trk_get _ _ (by omega)]; rfl
  clear b1
  obtain ⟨hl, hv⟩ := hx
  have HV := Lib.hid hv
  have BD := Lib.hid (chgS_bd x hl)
  clear hv
  go_upto_region 5 with (fail)
  generalize hn : x.length = n at *
  have HN := Lib.hid hn
  clear hn
  go_loopw [4, 3] (fun i s wr => ∃ k : Nat, (k = 0 ∨ k + 1 ≤ n) ∧ i = .int .i64 ((k : Int) + 1) ∧ s = .int .i64 (chgS x k) ∧ Blk wr g 24 (trk x) ∧ Below g w wr) (fun i _ _ => 22 - (intOf i).toNat)
  case atStart => exact ⟨0, Or.inl rfl, rfl, rfl, HB.out, B1⟩
  case round =>
    clear HB B1 zl c0
    obtain ⟨k, hk, rfl, rfl, hblk, hbel⟩ := hrel
    have HB := Lib.hid hblk
    have zl := hblk.lt
    have c0 : wr.cell? ⟨g, 0, none⟩ = some (.int .i64 n) := by rw [hblk.cell, trk_get _ _ (by omega), ← HN.out]; rfl
    clear hblk
    by_cases hlt : k + 1 < n
    · have d0 : decide ((k : Int) + 1 < (n : Int)) = true := decide_eq_true (by omega)
      have e1 : wr.cell? ⟨g, 1 + (k + 1), none⟩ = some (.int .i64 (x.getD (k + 1) 0)) := by rw [HB.out.cell, trk_get _ _ (by omega), cell_pos]
      have e0 : wr.cell? ⟨g, 1 + k, none⟩ = some (.int .i64 (x.getD k 0)) := by rw [HB.out.cell, trk_get _ _ (by omega), cell_pos]
      obtain ⟨q1, q2⟩ := BD.out k (by omega)
      have hS : chgS x (k + 1) = chgS x k + (if x.getD (k + 1) 0 = x.getD k 0 then 0 else 1140 - 20 * ((n : Int) - 1 - (k + 1))) := by rw [chgS, HN.out]
      have HS := Lib.hid hS
      clear hS
      generalize chgS x k = S at *
      generalize hS' : chgS x (k + 1) = S' at HS
      have HS' := Lib.hid hS'
      clear hS'
      generalize x.getD (k + 1) 0 = u at *
      generalize x.getD k 0 = v at *
      have k0 : (0 : Int) ≤ k := by omega
      have k1 : (k : Int) + 1 < 21 := by omega
      go_upto_region 7 with (fail)
      go_quiet (fail)
      clear e0 e1
      have c0' : (wr.drewN nq).cell? ⟨g, 0, none⟩ = some (.int .i64 n) := c0
      by_cases huv : u = v
      · have b : (u != v) = false := by rw [huv]; simp
        have h2 : S' = S := by rw [HS.out, if_pos huv]; omega
        have H2 := Lib.hid h2
        clear h2 huv
        go_wp2
        go_roundw
        case rel => exact ⟨k + 1, Or.inr (by omega), by go_num, by rw [HS'.out, H2.out], HB.out.drewN _, below_drewN hbel _⟩
        case measure => simp [intOf]; omega
      · have b : (u != v) = true := bne_iff_ne.2 huv
        have h2 : S' = S + (1140 - 20 * ((n : Int) - 1 - (k + 1))) := by rw [HS.out, if_neg huv]
        have H2 := Lib.hid h2
        have qn : (n : Int) ≤ 21 := by omega
        have hkn : (k : Int) + 1 < n := by omega
        clear h2 huv
        go_wp2
        go_roundw
        case rel => exact ⟨k + 1, Or.inr (by omega), by go_num, by rw [HS'.out, H2.out], HB.out.drewN _, below_drewN hbel _⟩
        case measure => simp [intOf]; omega
    · have d0 : decide ((k : Int) + 1 < (n : Int)) = false := decide_eq_false (by omega)
      have hf : chgF x = chgS x k := by unfold chgF; rw [HN.out]; congr 1; omega
      have HF := Lib.hid hf
      clear hf
      go_wp2
      go_ret
      exact ⟨ret_int HF.out.symm, by rw [hg]; exact hbel⟩
theorem trk_one (x : List Int) : (trk x).all (·.oneCell') = true := by
  rw [Array.all_eq_true]
  intro i hi
  have h := trk_get x i (by rwa [trk_size] at hi)
  rw [Array.getElem?_eq_getElem hi] at h
  rw [Option.some.inj h]; rfl
theorem trk_nil : trk [] = #[.int .i64 0, .int .i64 0, .int .i64 0, .int .i64 0, .int .i64 0, .int .i64 0, .int .i64 0, .int .i64 0, .int .i64 0, .int .i64 0, .int .i64 0, .int .i64 0, .int .i64 0, .int .i64 0, .int .i64 0, .int .i64 0, .int .i64 0, .int .i64 0, .int .i64 0, .int .i64 0, .int .i64 0, .int .i64 0] := rfl
theorem trk_push (x : List Int) (s : Int) (h : x.length ≤ 20) : ((trk x).setIfInBounds (1 + x.length) (.int .i64 s)).setIfInBounds 0 (.int .i64 ((x.length : Int) + 1)) = trk (x ++ [s]) := by
  apply Array.ext
  · simp [trk_size]
  · intro i h1 h2
    rw [trk_size] at h2
    have e := trk_get (x ++ [s]) i h2
    rw [Array.getElem?_eq_getElem (by rw [trk_size]; exact h2)] at e
    rw [Option.some.inj e]
    have ex := trk_get x i h2
    rw [Array.getElem?_eq_getElem (by rw [trk_size]; exact h2)] at ex
    have ex' := Option.some.inj ex
    rw [Array.getElem_setIfInBounds (by simpa [trk_size] using h2)]
    split
    · subst_vars; simp [cellT]
    · rename_i h0
      rw [Array.getElem_setIfInBounds (by simpa [trk_size] using h2)]
      split
      · rename_i h3; subst h3; simp [cellT]
      · rename_i h3
        rw [ex']
        have hi : i ≠ 0 := fun h => h0 h.symm
        unfold cellT
        rw [if_neg hi, if_neg hi]
        congr 1
        by_cases hlt : i - 1 < x.length
        · simp [List.getD, List.getElem?_append_left hlt]
        · rw [getD_out _ _ (by omega), getD_out _ _ (by simp; omega)]
theorem blk_setRow {w : World} {g : Nat} {t : TypeId} {cs cs' : Array Value} (h : Blk w g t cs) : Blk (w.setRow g cs') g t cs' := setRow_heap w g cs cs' t (0, 0) h
set_option maxRecDepth 100000 in
set_option maxHeartbeats 2000000 in
theorem push_lt (x : List Int) (s : Int) (w : World) (hx : okT x) (hl20 : x.length ≤ 20) (s0 : 0 ≤ s) (s3 : s ≤ 3) : Calls Tryd.prog 4 #[.agg (trk x), .int .i64 s] w fun e w' => e = .returned (.agg (trk (x ++ [s]))) ∧ Below w.heap.size w w' := by
  have hb := (Blk.new w 24 (trk x)).alloc (.cells (trk []) 24)
  have hb4 := Blk.new1 w (.cells (trk x) 24) 24 (trk [])
  have HC := Lib.hid (fun w => check_ok x w hx)
  have HA := Lib.hid (fun w => away_no s w s0 s3)
  have HP := Lib.hid (trk_push x s hl20)
  have B0 := below_al (below_al (Below.refl w.heap.size w) (.cells (trk x) 24)) (.cells (trk []) 24)
  rw [trk_nil] at hb hb4 B0
  clear s0 s3 hx
  go_enter Tryd.func4, Tryd.ntmps4
  go_upto_region 1 with (fail)
  generalize (w.alloc (Obj.cells (trk x) 24)).alloc (Obj.cells #[Value.int IntKind.i64 0, Value.int IntKind.i64 0, Value.int IntKind.i64 0, Value.int IntKind.i64 0, Value.int IntKind.i64 0, Value.int IntKind.i64 0, Value.int IntKind.i64 0, Value.int IntKind.i64 0, Value.int IntKind.i64 0, Value.int IntKind.i64 0, Value.int IntKind.i64 0, Value.int IntKind.i64 0, Value.int IntKind.i64 0, Value.int IntKind.i64 0, Value.int IntKind.i64 0, Value.int IntKind.i64 0, Value.int IntKind.i64 0, Value.int IntKind.i64 0, Value.int IntKind.i64 0, Value.int IntKind.i64 0, Value.int IntKind.i64 0, Value.int IntKind.i64 0] 24) = W at *
  generalize hg : w.heap.size = g at *
  unfold Blk at hb
  have HB := Lib.hid hb
  have HB4 := Lib.hid hb4
  clear hb4
  go_wp2_with (first | refine wpList_load_row rfl 24 _ rfl g rfl 24 (trk x) (0, 0) _ HB.out Tryd.underlying24 rfl (trk_info x) ?_)
  refine (HC.out _).mono ?_
  rintro e w1 ⟨rfl, hb1⟩
  have b1 : Blk w1 g 24 (trk x) := Blk.below hb hb1
  have b4 := HB4.out.below hb1
  have B1 : Below g w w1 := B0.trans (hb1.mono (by have := B0.size; omega))
  clear HB hb hb1 HC HB4 B0
  have HB := Lib.hid b1
  have HB4 := Lib.hid b4
  have zl := b1.lt
  have c0 : w1.cell? ⟨g, 0, none⟩ = some (.int .i64 x.length) := by rw [b1.cell, trk_get _ _ (by omega)]; rfl
  have c1 : w1.cell? ⟨g, 1 + x.length, none⟩ = some (.int .i64 (cellT x (1 + x.length))) := by rw [b1.cell, trk_get _ _ (by omega)]
  have f0 := b1.frozen 0
  have f1 := b1.frozen (1 + x.length)
  clear b1 b4
  generalize hn : x.length = n at *
  have n0 : (0 : Int) ≤ n := by omega
  have n1 : (n : Int) < 21 := by omega
  have n2 : ((n : Int) == 21) = false := beq_eq_false_iff_ne.2 (by omega)
  go_wp2_with (fail)
  refine (HA.out _).mono ?_
  rintro e w2 ⟨rfl, rfl⟩
  go_upto_region 8 with (fail)
  have b2 : Blk ((w1.setCell ⟨g, 1 + n, none⟩ (.int .i64 s)).setCell ⟨g, 0, none⟩ (.int .i64 ((n : Int) + 1))) g 24 (trk (x ++ [s])) := by
    have h := HP.out
    exact (HB.out.put (1 + n) (.int .i64 s) rfl).put 0 _ h
  have b4 := (HB4.out.far (p := ⟨g, 1 + n, none⟩) (by simp) (.int .i64 s)).far (p := ⟨g, 0, none⟩) (by simp) (.int .i64 ((n : Int) + 1))
  have B2 : Below g w ((w1.setCell ⟨g, 1 + n, none⟩ (.int .i64 s)).setCell ⟨g, 0, none⟩ (.int .i64 ((n : Int) + 1))) := (B1.setCell (by simp) _).setCell (by simp) _
  clear c0 c1 f0 f1 zl HB HB4 B1 HP
  generalize (w1.setCell ⟨g, 1 + n, none⟩ (.int .i64 s)).setCell ⟨g, 0, none⟩ (.int .i64 ((n : Int) + 1)) = W3 at *
  generalize hy : x ++ [s] = y at b2
  have HY := Lib.hid hy
  clear hy
  unfold Blk at b2 b4
  have HB := Lib.hid b2
  have HB4 := Lib.hid b4
  clear b2 b4
  go_wp2_with (first | refine wpList_load_row rfl 24 _ rfl g rfl 24 (trk y) (0, 0) _ HB.out Tryd.underlying24 rfl (trk_info y) ?_ | refine wpList_store_row rfl 24 _ _ rfl (g + 1) (trk y) rfl rfl 24 _ HB4.out (trk_info y) (by rw [trk_size]; rfl) (trk_one y) ?_)
  have b5 : Blk (W3.setRow (g + 1) (trk y)) (g + 1) 24 (trk y) := blk_setRow HB4.out
  refine bodyPost_ret (v := .agg (trk y)) (res_cell (p := 4) rfl _ _ (g + 1) 24 _ _ rfl b5 Tryd.underlying24 rfl (trk_info y)) rfl ⟨by rw [HY.out], ?_⟩
  rw [hg]
  exact below_setRow B2 (by omega) _
def cs20 (x : List Int) : List Value := (List.range 20).map fun j => Value.int .i64 (cellT x (2 + j))
theorem spl_len (x : List Int) : (splice (trk x).toList 1 (cs20 x)).length = 22 := by
  rw [length_splice]
  · simp [trk]
  · simp [trk, cs20]
theorem spl_get (x : List Int) (h : x.length = 21) (i : Nat) (hi : i < 22) : (splice (trk x).toList 1 (cs20 x))[i]? = some (.int .i64 (if i = 0 then 21 else if i < 21 then x.getD i 0 else cellT x 21)) := by
  have ht : ∀ j, j < 22 → (trk x).toList[j]? = some (.int .i64 (cellT x j)) := fun j hj => by simpa using trk_get x j hj
  unfold splice
  rcases (by omega : i = 0 ∨ (1 ≤ i ∧ i < 21) ∨ i = 21) with rfl | ⟨h1, h2⟩ | rfl
  · rw [List.getElem?_append_left (by simp [trk])]
    rw [List.getElem?_take_of_lt (by omega), ht 0 (by omega)]
    simp [cellT, h]
  · rw [List.getElem?_append_right (by simp [trk]; omega)]
    have hlen : ((trk x).toList.take 1).length = 1 := by simp [trk]
    rw [hlen, List.getElem?_append_left (by simp [cs20]; omega)]
    rw [if_neg (by omega), if_pos h2]
    have : (cs20 x)[i - 1]? = some (.int .i64 (cellT x (2 + (i - 1)))) := by rw [cs20, List.getElem?_map, List.getElem?_range (by omega)]; rfl
    rw [this]
    congr 2
    unfold cellT
    rw [if_neg (by omega)]
    congr 1
    omega
  · rw [List.getElem?_append_right (by simp [trk])]
    have hlen : ((trk x).toList.take 1).length = 1 := by simp [trk]
    have hc : (cs20 x).length = 20 := by simp [cs20]
    rw [hlen, List.getElem?_append_right (by rw [hc]; omega), hc]
    rw [List.getElem?_drop, ht _ (by omega)]
    simp
theorem trk_full (x : List Int) (s : Int) (h : x.length = 21) : (((((splice (trk x).toList 1 (cs20 x)).toArray).setIfInBounds 0 (.int .i64 20)).setIfInBounds 21 (.int .i64 s)).setIfInBounds 0 (.int .i64 21)) = trk (x.drop 1 ++ [s]) := by
  have hl : (splice (trk x).toList 1 (cs20 x)).length = 22 := by
    rw [length_splice]
    · simp [trk]
    · simp [trk, cs20]
  have key := spl_get x h
  apply Array.ext
  · simp [trk_size, hl]
  · intro i h1 h2
    rw [trk_size] at h2
    have e := trk_get (x.drop 1 ++ [s]) i h2
    rw [Array.getElem?_eq_getElem (by rw [trk_size]; exact h2)] at e
    rw [Option.some.inj e]
    have ex := key i h2
    rw [List.getElem?_eq_getElem (by rw [hl]; exact h2)] at ex
    have ex' := Option.some.inj ex
    rw [Array.getElem_setIfInBounds (by simpa [hl] using h2)]
    split
    · subst_vars; simp [cellT, h]
    · rename_i h0
      rw [Array.getElem_setIfInBounds (by simpa [hl] using h2)]
      split
      · rename_i h3
        subst h3
        unfold cellT
        rw [if_neg (by omega)]
        congr 1
        simp [List.getD, h]
      · rename_i h3
        rw [Array.getElem_setIfInBounds (by simpa [hl] using h2), if_neg h0]
        simp only [List.getElem_toArray]
        rw [ex']
        have hi : i ≠ 0 := fun h => h0 h.symm
        rw [if_neg hi, if_pos (by omega)]
        unfold cellT
        rw [if_neg hi]
        congr 1
        have hlt : i - 1 < (x.drop 1).length := by simp [h]; omega
        simp only [List.getD, List.getElem?_append_left hlt, List.getElem?_drop]
        congr 2
        omega
section
variable {P : Program} {ops : Array Oper} {o : Oper} {a : Act} {w : World} {K : Act → World → Prop} {Q : Exit → Act → World → Prop} {E : Prop}
/-- A copy into a row that is known whole, as one step of a region; the world behind it is said. -/
theorem step_copy_row (hgd : o.guard = none) (d s : Operand) (dT sT : TypeId)
    (ho : o.op = .call { callee := .builtin .copy, args := #[d, s], argTypes := #[dT, sT] }) (elem : TypeId) (hu : P.underlying dT = some (.slice elem)) (hsz : (P.info? elem).map (·.size) = some 1)
    (ad : Addr) (dLen dCap sLen sCap : Nat) (g off : Nat) (hd : a.eval d = .slice (some ⟨g, off, none⟩) dLen dCap) (hs : a.eval s = .slice (some ad) sLen sCap)
    (cur : Array Value) (t : TypeId) (hg : w.heap[g]? = some (.cells cur t (0, 0))) (cs : List Value) (hn : cs.length = Nat.min sLen dLen)
    (hsrc : ∀ j v, cs[j]? = some v → w.cell? (ad.add j) = some v) (hfit : off + cs.length ≤ cur.size) (h1 : ∀ v ∈ cs, v.oneCell' = true)
    (row : Array Value) (hrow : (cur.toList.take off ++ cs ++ cur.toList.drop (off + cs.length)).toArray = row)
    (h : K (a.put o.dst (goInt cs.length)) (w.setRow g row)) :
    if Region.wanted o (yielded ops a.tmps) = true then Oper.wp P o a w K Q else E := by
  have hw : Region.wanted o (yielded ops a.tmps) = true := by simp [Region.wanted, hgd]
  rw [if_pos hw]
  have hrun := run_copy_row (P := P) w dT sT o.type elem g off dLen dCap ad sLen sCap cur t cs hu hsz hg hn hsrc hfit h1
  unfold Oper.wp
  simp [execOp, ho, resolve, invoke, builtin, hd, hs, hrun, Result.andThen]
  subst hrow
  rw [List.append_assoc] at h
  exact h
end
set_option maxRecDepth 100000 in
set_option maxHeartbeats 2000000 in
theorem push_full (x : List Int) (s : Int) (w : World) (hx : okT x) (hl21 : x.length = 21) (s0 : 0 ≤ s) (s3 : s ≤ 3) : Calls Tryd.prog 4 #[.agg (trk x), .int .i64 s] w fun e w' => e = .returned (.agg (trk (x.drop 1 ++ [s]))) ∧ Below w.heap.size w w' := by
  have hb := (Blk.new w 24 (trk x)).alloc (.cells (trk []) 24)
  have hb4 := Blk.new1 w (.cells (trk x) 24) 24 (trk [])
  have HC := Lib.hid (fun w => check_ok x w hx)
  have HA := Lib.hid (fun w => away_no s w s0 s3)
  have HP := Lib.hid (trk_full x s hl21)
  have B0 := below_al (below_al (Below.refl w.heap.size w) (.cells (trk x) 24)) (.cells (trk []) 24)
  rw [trk_nil] at hb hb4 B0
  clear s0 s3 hx
  go_enter Tryd.func4, Tryd.ntmps4
  go_upto_region 1 with (fail)
  generalize (w.alloc (Obj.cells (trk x) 24)).alloc (Obj.cells #[Value.int IntKind.i64 0, Value.int IntKind.i64 0, Value.int IntKind.i64 0, Value.int IntKind.i64 0, Value.int IntKind.i64 0, Value.int IntKind.i64 0, Value.int IntKind.i64 0, Value.int IntKind.i64 0, Value.int IntKind.i64 0, Value.int IntKind.i64 0, Value.int IntKind.i64 0, Value.int IntKind.i64 0, Value.int IntKind.i64 0, Value.int IntKind.i64 0, Value.int IntKind.i64 0, Value.int IntKind.i64 0, Value.int IntKind.i64 0, Value.int IntKind.i64 0, Value.int IntKind.i64 0, Value.int IntKind.i64 0, Value.int IntKind.i64 0, Value.int IntKind.i64 0] 24) = W at *
  generalize hg : w.heap.size = g at *
  unfold Blk at hb
  have HB := Lib.hid hb
  have HB4 := Lib.hid hb4
  clear hb4
  go_wp2_with (first | refine wpList_load_row rfl 24 _ rfl g rfl 24 (trk x) (0, 0) _ HB.out Tryd.underlying24 rfl (trk_info x) ?_)
  refine (HC.out _).mono ?_
  rintro e w1 ⟨rfl, hb1⟩
  have b1 : Blk w1 g 24 (trk x) := Blk.below hb hb1
  have b4 := HB4.out.below hb1
  have B1 : Below g w w1 := B0.trans (hb1.mono (by have := B0.size; omega))
  clear HB hb hb1 HC HB4 B0
  have HB := Lib.hid b1
  have HB4 := Lib.hid b4
  have zl := b1.lt
  have c0 : w1.cell? ⟨g, 0, none⟩ = some (.int .i64 21) := by rw [b1.cell, trk_get _ _ (by omega)]; simp [cellT, hl21]
  have f0 := b1.frozen 0
  have ht : w1.heap[g]? = some (.cells (trk x) 24 (0, 0)) := b1
  have HT := Lib.hid ht
  have hsrc : ∀ j v, (cs20 x)[j]? = some v → w1.cell? ((⟨g, 2, none⟩ : Addr).add j) = some v := by
    intro j v hv
    have hj : j < 20 := by have := (List.getElem?_eq_some_iff.1 hv).1; simpa [cs20] using this
    rw [cs20, List.getElem?_map, List.getElem?_range hj] at hv
    have e : (⟨g, 2, none⟩ : Addr).add j = ⟨g, 2 + j, none⟩ := by
      unfold Addr.add; split
      · subst_vars; rfl
      · rfl
    rw [e, b1.cell, trk_get _ _ (by omega)]
    simpa using hv
  have HSRC := Lib.hid hsrc
  clear b1 b4 ht hsrc
  go_wp2_with (fail)
  refine (HA.out _).mono ?_
  rintro e w2 ⟨rfl, rfl⟩
  go_upto_region 4 with (fail)
  go_region_law (refine step_copy_row rfl (.tmp 17) (.tmp 19) 33 33 rfl 3 Tryd.underlying33 (by kernel_rfl) ⟨g, 2, none⟩ 21 21 20 20 g 1 rfl rfl (trk x) 24 HT.out (cs20 x) (by simp [cs20]) HSRC.out (by simp [cs20, trk]) (by simp [cs20, Value.oneCell']) (splice (trk x).toList 1 (cs20 x)).toArray (by simp [splice]) ?_)
  have b3 : Blk (w1.drew.setRow g (splice (trk x).toList 1 (cs20 x)).toArray) g 24 (splice (trk x).toList 1 (cs20 x)).toArray := blk_setRow (Blk.drew HB.out)
  have b34 : Blk (w1.drew.setRow g (splice (trk x).toList 1 (cs20 x)).toArray) (g + 1) 24 _ := (setRow_other w1.drew g (g + 1) _ (by omega)).trans (HB4.out.drew)
  have B3 : Below g w (w1.drew.setRow g (splice (trk x).toList 1 (cs20 x)).toArray) := below_setRow (below_drewN B1 1) (Nat.le_refl _) _
  clear c0 f0 zl HB HB4 B1 HT HSRC
  generalize w1.drew.setRow g (splice (trk x).toList 1 (cs20 x)).toArray = W2 at *
  have c0 : W2.cell? ⟨g, 0, none⟩ = some (.int .i64 21) := by rw [b3.cell, List.getElem?_toArray, spl_get x hl21 0 (by decide)]; rfl
  have f0 := b3.frozen 0
  have zl := b3.lt
  have H3 := Lib.hid b3; have H34 := Lib.hid b34
  clear b3 b34
  go_upto_region 6 with (fail)
  have b3 := H3.out.put 0 (.int .i64 20) rfl
  have b34 := H34.out.far (p := ⟨g, 0, none⟩) (by simp) (.int .i64 20)
  have B4 : Below g w (W2.setCell ⟨g, 0, none⟩ (.int .i64 20)) := B3.setCell (by simp) _
  clear c0 f0 zl H3 H34 B3
  generalize W2.setCell ⟨g, 0, none⟩ (.int .i64 20) = W3 at *
  have c0 : W3.cell? ⟨g, 0, none⟩ = some (.int .i64 20) := by rw [b3.cell]; simp [spl_len]
  have c1 : W3.cell? ⟨g, 21, none⟩ = some (.int .i64 (cellT x 21)) := by
    rw [b3.cell, Array.getElem?_setIfInBounds_ne (by decide), List.getElem?_toArray, spl_get x hl21 21 (by decide)]; rfl
  have f0 := b3.frozen 0
  have f1 := b3.frozen 21
  have zl := b3.lt
  have H3 := Lib.hid b3; have H34 := Lib.hid b34
  clear b3 b34
  go_upto_region 7 with (fail)
  have b3 := H3.out.put 21 (.int .i64 s) rfl
  have b34 := H34.out.far (p := ⟨g, 21, none⟩) (by simp) (.int .i64 s)
  have B5 : Below g w (W3.setCell ⟨g, 21, none⟩ (.int .i64 s)) := B4.setCell (by simp) _
  have c0' : (W3.setCell ⟨g, 21, none⟩ (.int .i64 s)).cell? ⟨g, 0, none⟩ = some (.int .i64 20) := by rw [b3.cell, Array.getElem?_setIfInBounds_ne (by decide)]; rw [← H3.out.cell]; exact c0
  clear c0 c1 f0 f1 zl H3 H34 B4
  generalize W3.setCell ⟨g, 21, none⟩ (.int .i64 s) = W4 at *
  have f0 := b3.frozen 0
  have zl := b3.lt
  have b6 : Blk (W4.setCell ⟨g, 0, none⟩ (.int .i64 21)) g 24 (trk (x.drop 1 ++ [s])) := b3.put 0 _ HP.out
  have b64 := b34.far (p := ⟨g, 0, none⟩) (by simp) (.int .i64 21)
  have B6 : Below g w (W4.setCell ⟨g, 0, none⟩ (.int .i64 21)) := B5.setCell (by simp) _
  unfold Blk at b6 b64
  have H6 := Lib.hid b6; have H64 := Lib.hid b64
  clear b3 b34 b6 b64 HP B5
  go_upto_region 8 with (fail)
  clear c0' f0 zl
  generalize W4.setCell ⟨g, 0, none⟩ (.int .i64 21) = W5 at *
  generalize hy : x.drop 1 ++ [s] = y at H6
  have HY := Lib.hid hy
  clear hy
  go_wp2_with (first | refine wpList_load_row rfl 24 _ rfl g rfl 24 (trk y) (0, 0) _ H6.out Tryd.underlying24 rfl (trk_info y) ?_ | refine wpList_store_row rfl 24 _ _ rfl (g + 1) (trk y) rfl rfl 24 _ H64.out (trk_info y) (by rw [trk_size]; rfl) (trk_one y) ?_)
  have b7 : Blk (W5.setRow (g + 1) (trk y)) (g + 1) 24 (trk y) := blk_setRow H64.out
  refine bodyPost_ret (v := .agg (trk y)) (res_cell (p := 4) rfl _ _ (g + 1) 24 _ _ rfl b7 Tryd.underlying24 rfl (trk_info y)) rfl ⟨by rw [HY.out], ?_⟩
  rw [hg]
  exact below_setRow B6 (by omega) _
def pushF (x : List Int) (s : Int) : List Int := if x.length = 21 then x.drop 1 ++ [s] else x ++ [s]
theorem push_walk (x : List Int) (s : Int) (w : World) (hx : okT x) (s0 : 0 ≤ s) (s3 : s ≤ 3) : Calls Tryd.prog 4 #[.agg (trk x), .int .i64 s] w fun e w' => e = .returned (.agg (trk (pushF x s))) ∧ Below w.heap.size w w' := by
  unfold pushF
  split
  · rename_i h; exact push_full x s w hx h s0 s3
  · rename_i h; exact push_lt x s w hx (by have := hx.1; omega) s0 s3
theorem getD_ok {x : List Int} (h : ∀ v ∈ x, 0 ≤ v ∧ v ≤ 3) (j : Nat) : 0 ≤ x.getD j 0 ∧ x.getD j 0 ≤ 3 := by
  by_cases hj : j < x.length
  · have e : x.getD j 0 = x[j] := by simp [List.getD, hj]
    rw [e]; exact h _ (List.getElem_mem hj)
  · rw [getD_out _ _ (by omega)]; exact ⟨by decide, by decide⟩
theorem okT_mem {x : List Int} (h : okT x) : ∀ v ∈ x, 0 ≤ v ∧ v ≤ 3 := by
  intro v hv
  obtain ⟨j, hj, rfl⟩ := List.getElem_of_mem hv
  have := h.2 j
  rwa [show x.getD j 0 = x[j] by simp [List.getD, hj]] at this
theorem okT_push {x : List Int} {s : Int} (hx : okT x) (s0 : 0 ≤ s) (s3 : s ≤ 3) : okT (pushF x s) := by
  have hm := okT_mem hx
  unfold pushF
  split
  · rename_i h
    refine ⟨by simp [h], getD_ok fun v hv => ?_⟩
    rcases List.mem_append.1 hv with h1 | h1
    · exact hm v (List.mem_of_mem_drop h1)
    · rw [List.mem_singleton.1 h1]; exact ⟨s0, s3⟩
  · rename_i h
    refine ⟨by have := hx.1; simp; omega, getD_ok fun v hv => ?_⟩
    rcases List.mem_append.1 hv with h1 | h1
    · exact hm v h1
    · rw [List.mem_singleton.1 h1]; exact ⟨s0, s3⟩
end Go.Proofs.YtndipldjkojofaaDoor
