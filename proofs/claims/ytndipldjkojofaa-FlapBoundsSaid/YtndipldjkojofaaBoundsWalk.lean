/- The law FlapBounds, walked. -/
import Derived.Test.YtndipldjkojofaaAid
namespace Go.Proofs.Ytndipldjkojofaa
open Go.RowKit
def bndF (n : Nat) : Nat → Int
  | 0 => 0
  | k + 1 => bndF n k + (1140 - 20 * ((n : Int) - 1 - (k + 1)))
theorem chgS_le (x : List Int) (hl : x.length ≤ 21) : ∀ k, chgS x k ≤ bndF x.length k := by
  intro k
  induction k with
  | zero => exact Int.le_refl 0
  | succ k ih =>
    rw [chgS, bndF]
    push_cast
    split <;> omega
theorem bndF_le : ∀ n, n < 22 → bndF n (n - 1) ≤ 19000 := by decide
theorem chgF_le (x : List Int) (hx : okT x) : chgF x ≤ 19000 := Int.le_trans (chgS_le x hx.1 _) (bndF_le _ (by have := hx.1; omega))
def altF : Nat → List Int
  | 0 => []
  | j + 1 => altF j ++ [((j % 2 : Nat) : Int)]
theorem alt_len (j : Nat) : (altF j).length = j := by
  induction j with
  | zero => rfl
  | succ j ih => simp [altF, ih]
theorem alt_push (j : Nat) (h : j < 21) : pushF (altF j) ((j % 2 : Nat) : Int) = altF (j + 1) := by
  unfold pushF
  rw [alt_len, if_neg (by omega), altF]
theorem alt_ok : ∀ j, j ≤ 21 → okT (altF j) := by
  intro j hj
  refine ⟨by rw [alt_len]; exact hj, getD_ok ?_⟩
  clear hj
  induction j with
  | zero => intro v hv; cases hv
  | succ j ih =>
    intro v hv
    rw [altF, List.mem_append] at hv
    rcases hv with h | h
    · exact ih v h
    · rw [List.mem_singleton.1 h]; omega
theorem alt_chg : chgF (altF 21) = 19000 := by decide
theorem alt_flaps : flapsF (altF 21) false 0 100 = true := by decide
theorem flaps_mono (x : List Int) (did : Bool) (low high : Int) (h : low ≤ high) (hf : flapsF x did high high = true) : flapsF x did low low = true := by
  unfold flapsF at *
  rw [ite_self, decide_eq_true_eq] at *
  refine Int.le_trans ?_ hf
  have : boundF low ≤ boundF high := by unfold boundF; split <;> split <;> (try split) <;> (try split) <;> omega
  omega
set_option linter.unusedSimpArgs false in
set_option linter.unusedVariables false in
set_option maxRecDepth 100000 in
set_option maxHeartbeats 4000000 in
theorem bounds_walk (A : Option Addr) (n cap : Nat) (xs : List Int) (a1 a2 : Int) (w : World) (hi : Ints w A n xs) :
    Calls Try.prog 5 #[.slice A n cap, .int .i64 a1, .int .i64 a2] w fun e w' => e = .returned (.bool true) ∧ Below w.heap.size w w' := by
  have hn := hi.2.1
  have HI := Lib.hid hi; clear hi
  have hb : Blk ((w.alloc (.cells #[.int .i64 0, .int .i64 0, .int .i64 0, .int .i64 0, .int .i64 0, .int .i64 0, .int .i64 0, .int .i64 0, .int .i64 0, .int .i64 0, .int .i64 0, .int .i64 0, .int .i64 0, .int .i64 0, .int .i64 0, .int .i64 0, .int .i64 0, .int .i64 0, .int .i64 0, .int .i64 0, .int .i64 0, .int .i64 0] 26)).alloc (.cells #[.int .i64 0, .int .i64 0, .int .i64 0, .int .i64 0, .int .i64 0, .int .i64 0, .int .i64 0, .int .i64 0, .int .i64 0, .int .i64 0, .int .i64 0, .int .i64 0, .int .i64 0, .int .i64 0, .int .i64 0, .int .i64 0, .int .i64 0, .int .i64 0, .int .i64 0, .int .i64 0, .int .i64 0, .int .i64 0] 26)) w.heap.size 26 (trk []) := Blk.alloc (Blk.new w 26 _) _
  have hb2 : Blk ((w.alloc (.cells #[.int .i64 0, .int .i64 0, .int .i64 0, .int .i64 0, .int .i64 0, .int .i64 0, .int .i64 0, .int .i64 0, .int .i64 0, .int .i64 0, .int .i64 0, .int .i64 0, .int .i64 0, .int .i64 0, .int .i64 0, .int .i64 0, .int .i64 0, .int .i64 0, .int .i64 0, .int .i64 0, .int .i64 0, .int .i64 0] 26)).alloc (.cells #[.int .i64 0, .int .i64 0, .int .i64 0, .int .i64 0, .int .i64 0, .int .i64 0, .int .i64 0, .int .i64 0, .int .i64 0, .int .i64 0, .int .i64 0, .int .i64 0, .int .i64 0, .int .i64 0, .int .i64 0, .int .i64 0, .int .i64 0, .int .i64 0, .int .i64 0, .int .i64 0, .int .i64 0, .int .i64 0] 26)) (w.heap.size + 1) 26 (trk []) := Blk.new1 w _ 26 _
  have B0 := below_al (below_al (Below.refl w.heap.size w) (.cells #[.int .i64 0, .int .i64 0, .int .i64 0, .int .i64 0, .int .i64 0, .int .i64 0, .int .i64 0, .int .i64 0, .int .i64 0, .int .i64 0, .int .i64 0, .int .i64 0, .int .i64 0, .int .i64 0, .int .i64 0, .int .i64 0, .int .i64 0, .int .i64 0, .int .i64 0, .int .i64 0, .int .i64 0, .int .i64 0] 26)) (.cells #[.int .i64 0, .int .i64 0, .int .i64 0, .int .i64 0, .int .i64 0, .int .i64 0, .int .i64 0, .int .i64 0, .int .i64 0, .int .i64 0, .int .i64 0, .int .i64 0, .int .i64 0, .int .i64 0, .int .i64 0, .int .i64 0, .int .i64 0, .int .i64 0, .int .i64 0, .int .i64 0, .int .i64 0, .int .i64 0] 26)
  go_enter Try.func5, Try.ntmps5
  go_upto_region 3 with (fail)
  generalize (w.alloc (Obj.cells #[Value.int IntKind.i64 0, Value.int IntKind.i64 0, Value.int IntKind.i64 0, Value.int IntKind.i64 0, Value.int IntKind.i64 0, Value.int IntKind.i64 0, Value.int IntKind.i64 0, Value.int IntKind.i64 0, Value.int IntKind.i64 0, Value.int IntKind.i64 0, Value.int IntKind.i64 0, Value.int IntKind.i64 0, Value.int IntKind.i64 0, Value.int IntKind.i64 0, Value.int IntKind.i64 0, Value.int IntKind.i64 0, Value.int IntKind.i64 0, Value.int IntKind.i64 0, Value.int IntKind.i64 0, Value.int IntKind.i64 0, Value.int IntKind.i64 0, Value.int IntKind.i64 0] 26)).alloc (Obj.cells #[Value.int IntKind.i64 0, Value.int IntKind.i64 0, Value.int IntKind.i64 0, Value.int IntKind.i64 0, Value.int IntKind.i64 0, Value.int IntKind.i64 0, Value.int IntKind.i64 0, Value.int IntKind.i64 0, Value.int IntKind.i64 0, Value.int IntKind.i64 0, Value.int IntKind.i64 0, Value.int IntKind.i64 0, Value.int IntKind.i64 0, Value.int IntKind.i64 0, Value.int IntKind.i64 0, Value.int IntKind.i64 0, Value.int IntKind.i64 0, Value.int IntKind.i64 0, Value.int IntKind.i64 0, Value.int IntKind.i64 0, Value.int IntKind.i64 0, Value.int IntKind.i64 0] 26) = W at *
  generalize hg : w.heap.size = g at hb hb2 ⊢
  have hgl : w.heap.size ≤ g := by omega
  go_loopw [9] (fun i wr => ∃ (k : Nat) (x : List Int), k ≤ n ∧ i = .int .i64 k ∧ okT x ∧ Blk wr g 26 (trk x) ∧ Blk wr (g + 1) 26 (trk []) ∧ Below w.heap.size w wr) (fun i _ => n - (intOf i).toNat)
  case atStart => exact ⟨0, [], by omega, rfl, okT_lit.1, hb, hb2, B0⟩
  case round =>
    clear hb hb2 B0
    obtain ⟨k, x, hk, rfl, hx, hblk, hblk2, hbel⟩ := hrel
    by_cases hlt : k < n ∧ k < 60
    · obtain ⟨hlt, h60⟩ := hlt
      obtain ⟨ad, rfl, hcell⟩ := (HI.out.below hbel).at hlt
      generalize xs.getD k 0 = y at hcell
      obtain ⟨q1, q2⟩ := u64m_bd y 4 (by decide)
      have k0 : (0 : Int) ≤ k := by omega
      have HX := Lib.hid hx
      have HBL := Lib.hid hblk
      have HBL2 := Lib.hid hblk2
      have HP := Lib.hid (fun w => push_walk x ((IntKind.u64.wrap y).tmod 4) w hx q1 (by omega))
      have HO := Lib.hid (okT_push hx q1 (show (IntKind.u64.wrap y).tmod 4 ≤ 3 by omega))
      have hd : wr.drew.heap[g]? = some (.cells (trk x) 26 (0, 0)) := hblk
      have HD := Lib.hid hd
      clear hd hblk hx hblk2
      have hwy : IntKind.i64.wrap ((IntKind.u64.wrap y).tmod 4) = (IntKind.u64.wrap y).tmod 4 := by rw [IntKind.wrap_i64]; omega
      go_upto_region 5 with (fail)
      refine wp_region_noPanic ?_
      refine wp_region_held_drew (S := (fun _ => True)) (by kernel_rfl) ?_ (fun hHeld => ?_)
      · exact trivial
      refine reg_take (i := 1) (oi := _) (v := ?_) rfl (by kernel_rfl) (by kernel_rfl) (by kernel_rfl) (fun _ _ _ h => h) (by rfl) ?_ (by assumption) ?_
      rotate_left
      · intro w hSw; (try dsimp only at hSw); go_simp; try with_reducible rfl
      (try simp only [Act.put, List.setIfInBounds_toArray, List.set_cons_zero, List.set_cons_succ])
      refine reg_take (i := 2) (oi := _) (v := ?_) rfl (by kernel_rfl) (by kernel_rfl) (by kernel_rfl) (fun _ _ _ h => h) (by rfl) ?_ (by assumption) ?_
      rotate_left
      · intro w hSw; (try dsimp only at hSw); go_simp; try with_reducible rfl
      (try simp only [Act.put, List.setIfInBounds_toArray, List.set_cons_zero, List.set_cons_succ])
      refine reg_take (i := 3) (oi := _) (v := ?_) rfl (by kernel_rfl) (by kernel_rfl) (by kernel_rfl) (fun _ _ _ h => h) (by rfl) ?_ (by assumption) ?_
      rotate_left
      · intro w hSw; (try dsimp only at hSw); go_simp; try with_reducible rfl
      (try simp only [Act.put, List.setIfInBounds_toArray, List.set_cons_zero, List.set_cons_succ])
      refine wpAnyH_ready (rs := [0, 4]) (by kernel_rfl) (by simp) ?_
      refine reg_each (o := _) rfl (fun K hK => ?_) ?_
      · skip
        rw [if_pos (by rfl)]
        refine wp_load_row 26 _ rfl g rfl 26 (trk x) (0, 0) _ HD.out Try.underlying26 rfl (trk_info _) ?_
        refine hK.out _ _ ?_ (fun hHeld2 => ?_)
        · exact trivial
        clear hK K hHeld
        have hHeld := hHeld2
        clear hHeld2
        (try simp only [Act.put, List.setIfInBounds_toArray, List.set_cons_zero, List.set_cons_succ])
        refine wpAnyH_ready (rs := [4]) (by kernel_rfl) (by simp) ?_
        refine reg_each (o := _) rfl (fun K hK => ?_) ?_
        · skip
          go_simp
          refine hK.out _ _ ?_ (fun hHeld2 => ?_)
          · exact trivial
          clear hK K hHeld
          have hHeld := hHeld2
          clear hHeld2
          (try simp only [Act.put, List.setIfInBounds_toArray, List.set_cons_zero, List.set_cons_succ])
          refine reg_take (i := 5) (oi := _) (v := ?_) rfl (by kernel_rfl) (by kernel_rfl) (by kernel_rfl) (fun _ _ _ h => h) (by rfl) ?_ (by assumption) ?_
          rotate_left
          · intro w hSw; (try dsimp only at hSw); go_simp; try with_reducible rfl
          (try simp only [Act.put, List.setIfInBounds_toArray, List.set_cons_zero, List.set_cons_succ])
          refine reg_take (i := 6) (oi := _) (v := ?_) rfl (by kernel_rfl) (by kernel_rfl) (by kernel_rfl) (fun _ _ _ h => h) (by rfl) ?_ (by assumption) ?_
          rotate_left
          · intro w hSw; (try dsimp only at hSw); go_simp; try with_reducible rfl
          (try simp only [Act.put, List.setIfInBounds_toArray, List.set_cons_zero, List.set_cons_succ])
          refine reg_take (i := 7) (oi := _) (v := ?_) rfl (by kernel_rfl) (by kernel_rfl) (by kernel_rfl) (fun _ _ _ h => h) (by rfl) ?_ (by assumption) ?_
          rotate_left
          · intro w hSw; (try dsimp only at hSw); go_simp; try with_reducible rfl
          (try simp only [Act.put, List.setIfInBounds_toArray, List.set_cons_zero, List.set_cons_succ])
          refine wpAnyH_ready (rs := [8]) (by kernel_rfl) (by simp) ?_
          refine reg_each (o := _) rfl (fun K hK => ?_) ?_
          · skip
            go_simp
            refine (HP.out _).mono ?_
            rintro e w2 ⟨rfl, hb2⟩
            go_wp2_with (fail)
            refine hK.out _ _ ?_ (fun hHeld2 => ?_)
            · exact trivial
            clear hK K hHeld
            have hHeld := hHeld2
            clear hHeld2
            (try simp only [Act.put, List.setIfInBounds_toArray, List.set_cons_zero, List.set_cons_succ])
            refine wpAnyH_ready (rs := [9]) (by kernel_rfl) (by simp) ?_
            refine reg_each (o := _) rfl (fun K hK => ?_) ?_
            · skip
              rw [if_pos (by rfl)]
              refine wp_store_row 26 _ _ rfl g (trk (pushF x ((IntKind.u64.wrap y).tmod 4))) rfl rfl 26 (trk x) (Blk.below (t := 26) (cs := trk x) HD.out hb2) (trk_info _) (by rw [trk_size, trk_size]) (trk_one _) ?_
              refine hK.out _ _ ?_ (fun hHeld2 => ?_)
              · exact trivial
              clear hK K hHeld
              have hHeld := hHeld2
              clear hHeld2
              (try simp only [Act.put, List.setIfInBounds_toArray, List.set_cons_zero, List.set_cons_succ])
              refine wpAnyH_done (by kernel_rfl) ?_ _
              refine NoPanic.normal ?_
              go_wp2_with (fail)
              go_roundw
              case rel => exact ⟨k + 1, pushF x ((IntKind.u64.wrap y).tmod 4), by omega, by go_num, HO.out, blk_setRow (Blk.below (t := 26) (cs := trk x) HD.out hb2), (setRow_other _ g (g + 1) _ (by omega)).trans (HBL2.out.drew.below hb2), below_setRow (below_trans (below_drewN hbel 1) hb2) hgl _⟩
              case measure => simp [intOf]; omega
            exact AllReadyH.nil
          exact AllReadyH.nil
        exact AllReadyH.nil
      refine reg_each (o := _) rfl (fun K hK => ?_) ?_
      · skip
        go_simp
        refine hK.out _ _ ?_ (fun hHeld2 => ?_)
        · exact trivial
        clear hK K hHeld
        have hHeld := hHeld2
        clear hHeld2
        (try simp only [Act.put, List.setIfInBounds_toArray, List.set_cons_zero, List.set_cons_succ])
        refine reg_take (i := 5) (oi := _) (v := ?_) rfl (by kernel_rfl) (by kernel_rfl) (by kernel_rfl) (fun _ _ _ h => h) (by rfl) ?_ (by assumption) ?_
        rotate_left
        · intro w hSw; (try dsimp only at hSw); go_simp; try with_reducible rfl
        (try simp only [Act.put, List.setIfInBounds_toArray, List.set_cons_zero, List.set_cons_succ])
        refine reg_take (i := 6) (oi := _) (v := ?_) rfl (by kernel_rfl) (by kernel_rfl) (by kernel_rfl) (fun _ _ _ h => h) (by rfl) ?_ (by assumption) ?_
        rotate_left
        · intro w hSw; (try dsimp only at hSw); go_simp; try with_reducible rfl
        (try simp only [Act.put, List.setIfInBounds_toArray, List.set_cons_zero, List.set_cons_succ])
        refine reg_take (i := 7) (oi := _) (v := ?_) rfl (by kernel_rfl) (by kernel_rfl) (by kernel_rfl) (fun _ _ _ h => h) (by rfl) ?_ (by assumption) ?_
        rotate_left
        · intro w hSw; (try dsimp only at hSw); go_simp; try with_reducible rfl
        (try simp only [Act.put, List.setIfInBounds_toArray, List.set_cons_zero, List.set_cons_succ])
        refine wpAnyH_ready (rs := [0]) (by kernel_rfl) (by simp) ?_
        refine reg_each (o := _) rfl (fun K hK => ?_) ?_
        · skip
          rw [if_pos (by rfl)]
          refine wp_load_row 26 _ rfl g rfl 26 (trk x) (0, 0) _ HD.out Try.underlying26 rfl (trk_info _) ?_
          refine hK.out _ _ ?_ (fun hHeld2 => ?_)
          · exact trivial
          clear hK K hHeld
          have hHeld := hHeld2
          clear hHeld2
          (try simp only [Act.put, List.setIfInBounds_toArray, List.set_cons_zero, List.set_cons_succ])
          refine wpAnyH_ready (rs := [8]) (by kernel_rfl) (by simp) ?_
          refine reg_each (o := _) rfl (fun K hK => ?_) ?_
          · skip
            go_simp
            refine (HP.out _).mono ?_
            rintro e w2 ⟨rfl, hb2⟩
            go_wp2_with (fail)
            refine hK.out _ _ ?_ (fun hHeld2 => ?_)
            · exact trivial
            clear hK K hHeld
            have hHeld := hHeld2
            clear hHeld2
            (try simp only [Act.put, List.setIfInBounds_toArray, List.set_cons_zero, List.set_cons_succ])
            refine wpAnyH_ready (rs := [9]) (by kernel_rfl) (by simp) ?_
            refine reg_each (o := _) rfl (fun K hK => ?_) ?_
            · skip
              rw [if_pos (by rfl)]
              refine wp_store_row 26 _ _ rfl g (trk (pushF x ((IntKind.u64.wrap y).tmod 4))) rfl rfl 26 (trk x) (Blk.below (t := 26) (cs := trk x) HD.out hb2) (trk_info _) (by rw [trk_size, trk_size]) (trk_one _) ?_
              refine hK.out _ _ ?_ (fun hHeld2 => ?_)
              · exact trivial
              clear hK K hHeld
              have hHeld := hHeld2
              clear hHeld2
              (try simp only [Act.put, List.setIfInBounds_toArray, List.set_cons_zero, List.set_cons_succ])
              refine wpAnyH_done (by kernel_rfl) ?_ _
              refine NoPanic.normal ?_
              go_wp2_with (fail)
              go_roundw
              case rel => exact ⟨k + 1, pushF x ((IntKind.u64.wrap y).tmod 4), by omega, by go_num, HO.out, blk_setRow (Blk.below (t := 26) (cs := trk x) HD.out hb2), (setRow_other _ g (g + 1) _ (by omega)).trans (HBL2.out.drew.below hb2), below_setRow (below_trans (below_drewN hbel 1) hb2) hgl _⟩
              case measure => simp [intOf]; omega
            exact AllReadyH.nil
          exact AllReadyH.nil
        exact AllReadyH.nil
      exact AllReadyH.nil
    · have hlt' : ¬ k < n ∨ (k < n ∧ ¬ k < 60) := by omega
      rcases hlt' with h1 | ⟨h1, h2⟩
      all_goals
        go_upto_region 7 with (fail)
        go_loopw [10] (fun i wr2 => ∃ (j : Nat), j ≤ 21 ∧ i = .int .i64 j ∧ Blk wr2 g 26 (trk x) ∧ Blk wr2 (g + 1) 26 (trk (altF j)) ∧ Below w.heap.size w wr2) (fun i _ => 21 - (intOf i).toNat)
        case atStart => exact ⟨0, by omega, rfl, hblk, hblk2, hbel⟩
        case round =>
          clear hblk hblk2 hbel
          obtain ⟨j, hj, rfl, hblk, hblk2, hbel2⟩ := hrel
          have HX := Lib.hid hx
          by_cases hj21 : j < 21
          · have hd : wr.heap[g + 1]? = some (.cells (trk (altF j)) 26 (0, 0)) := hblk2
            have HD := Lib.hid hd
            have HB := Lib.hid hblk
            have HS := Lib.hid (alt_push j hj21)
            have hp := fun w => push_walk (altF j) ((j % 2 : Nat) : Int) w (alt_ok j hj) (by omega) (by omega)
            rw [HS.out, show ((j % 2 : Nat) : Int) = (j : Int).tmod 2 by rw [Int.tmod_eq_emod_of_nonneg (by omega)]; omega] at hp
            have HP := Lib.hid hp
            clear hp hd hblk hblk2
            generalize hz : altF (j + 1) = z' at *
            have HZ := Lib.hid hz
            clear hz
            generalize altF j = z at *
            have j0 : (0 : Int) ≤ j := by omega
            go_wp2_with (first | refine wpList_load_row rfl 26 _ rfl (g + 1) rfl 26 (trk z) (0, 0) _ HD.out Try.underlying26 rfl (trk_info _) ?_ | refine load_guarded (by rfl) 26 _ rfl (g + 1) rfl 26 (trk z) (0, 0) _ HD.out Try.underlying26 rfl (trk_info _) ?_)
            refine (HP.out _).mono ?_
            rintro e w2 ⟨rfl, hb2⟩
            have h2 : w2.heap[g + 1]? = some (.cells (trk z) 26 (0, 0)) := Blk.below (t := 26) (cs := trk z) HD.out hb2
            have H2 := Lib.hid h2
            clear h2
            go_wp2_with (first | refine wpList_store_row rfl 26 _ _ rfl (g + 1) (trk z') rfl rfl 26 (trk z) H2.out (trk_info _) (by rw [trk_size, trk_size]) (trk_one _) ?_)
            go_roundw
            case rel => exact ⟨j + 1, by omega, by go_num, (setRow_other _ (g + 1) g _ (by omega)).trans (HB.out.below hb2), by rw [HZ.out]; exact blk_setRow H2.out, below_setRow (below_trans hbel2 hb2) (by omega) _⟩
            case measure => simp [intOf]; omega
          · obtain rfl : j = 21 := by omega
            have hd : wr.heap[g]? = some (.cells (trk x) 26 (0, 0)) := hblk
            have HD := Lib.hid hd
            have hd2 : wr.heap[g + 1]? = some (.cells (trk (altF 21)) 26 (0, 0)) := hblk2
            have HD2 := Lib.hid hd2
            have HC := Lib.hid (fun w => change_walk x w hx)
            have HC2 := Lib.hid (fun w => change_walk (altF 21) w (alt_ok 21 (by omega)))
            have HF := Lib.hid (fun w => flaps_walk (altF 21) false 0 100 w (alt_ok 21 (by omega)))
            have hc0 := (chgF_bd x hx).1
            have hc1 := chgF_le x hx
            rw [alt_chg] at HC2
            rw [alt_flaps] at HF
            clear hd hd2 hblk hblk2 hj hj21
            generalize altF 21 = z at *
            generalize hc : chgF x = c at *
            clear hc
            go_upto_region 10 with (fail)
            go_wp2_with (first | refine wpList_load_row rfl 26 _ rfl (g) rfl 26 (trk x) (0, 0) _ HD.out Try.underlying26 rfl (trk_info _) ?_ | refine load_guarded (by rfl) 26 _ rfl (g) rfl 26 (trk x) (0, 0) _ HD.out Try.underlying26 rfl (trk_info _) ?_)
            refine (HC.out _).mono ?_
            rintro e w2 ⟨rfl, hb2⟩
            have h2 : w2.heap[g + 1]? = some (.cells (trk z) 26 (0, 0)) := Blk.below (t := 26) (cs := trk z) HD2.out hb2
            have H2 := Lib.hid h2
            have h3 : w2.heap[g]? = some (.cells (trk x) 26 (0, 0)) := Blk.below (t := 26) (cs := trk x) HD.out hb2
            have H3 := Lib.hid h3
            clear h2 h3 HD HD2
            go_upto_region 12 with (fail)
            have hle : (if a2 < a1 then a2 else a1) ≤ (if a1 < a2 then a2 else a1) := by split <;> split <;> omega
            generalize hlo : (if a2 < a1 then a2 else a1) = lo at *
            generalize hhi : (if a1 < a2 then a2 else a1) = hi at *
            clear hlo hhi
            have MT := Lib.hid (flaps_mono x true lo hi hle)
            have MF := Lib.hid (flaps_mono x false lo hi hle)
            have FH := Lib.hid (fun did w => flaps_walk x did hi hi w HX.out)
            have FL := Lib.hid (fun did w => flaps_walk x did lo lo w HX.out)
            clear hle
            have d0 : decide (c < 0) = false := decide_eq_false (by omega)
            have d1 : decide (19000 < c) = false := decide_eq_false (by omega)
            go_wp2_with (first | refine wpList_load_row rfl 26 _ rfl (g + 1) rfl 26 (trk z) (0, 0) _ H2.out Try.underlying26 rfl (trk_info _) ?_ | refine load_guarded (by rfl) 26 _ rfl (g + 1) rfl 26 (trk z) (0, 0) _ H2.out Try.underlying26 rfl (trk_info _) ?_)
            refine (HC2.out _).mono ?_
            rintro e w3 ⟨rfl, hb3⟩
            have h4 : w3.heap[g + 1]? = some (.cells (trk z) 26 (0, 0)) := Blk.below (t := 26) (cs := trk z) H2.out hb3
            have H4 := Lib.hid h4
            clear h4 HC HC2
            go_wp2_with (first | refine wpList_load_row rfl 26 _ rfl (g + 1) rfl 26 (trk z) (0, 0) _ H4.out Try.underlying26 rfl (trk_info _) ?_ | refine load_guarded (by rfl) 26 _ rfl (g + 1) rfl 26 (trk z) (0, 0) _ H4.out Try.underlying26 rfl (trk_info _) ?_)
            refine (HF.out _).mono ?_
            rintro e w4 ⟨rfl, hb4⟩
            have h5 : Blk w4 g 26 (trk x) := Blk.below (t := 26) (cs := trk x) (Blk.below (t := 26) (cs := trk x) H3.out hb3) hb4
            have B4 := below_trans (below_trans (below_trans hbel2 hb2) hb3) hb4
            clear H2 H3 H4 HF hb2 hb3 hb4 hbel2 HI
            go_upto_region 15 with (fail)
            go_loopw [14] (fun i wr3 => ∃ (m : Nat), m ≤ 2 ∧ i = .int .i64 m ∧ Blk wr3 g 26 (trk x) ∧ Below w.heap.size w wr3) (fun i _ => 2 - (intOf i).toNat)
            case atStart => exact ⟨0, by omega, rfl, h5, B4⟩
            case round =>
              clear h5 B4
              obtain ⟨m, hm, rfl, hblk, hbel2⟩ := hrel
              have ht : wr.heap[g]? = some (.cells (trk x) 26 (0, 0)) := hblk
              have HT := Lib.hid ht
              clear hblk
              rcases (by omega : m = 0 ∨ m = 1 ∨ m = 2) with rfl | rfl | rfl
              · cases hf : flapsF x true hi hi
                · have F := Lib.hid (FH.out true)
                  rw [hf] at F
                  go_wp2_with (first | refine wpList_load_row rfl 26 _ rfl (g) rfl 26 (trk x) (0, 0) _ HT.out Try.underlying26 rfl (trk_info _) ?_ | refine load_guarded (by rfl) 26 _ rfl (g) rfl 26 (trk x) (0, 0) _ HT.out Try.underlying26 rfl (trk_info _) ?_)
                  refine (F.out _).mono ?_
                  rintro e w5 ⟨rfl, hb5⟩
                  go_wp2_with (fail)
                  go_roundw
                  case rel => exact ⟨1, by omega, by go_num, Blk.below (t := 26) (cs := trk x) HT.out hb5, below_trans hbel2 hb5⟩
                  case measure => simp [intOf]
                · have F := Lib.hid (FH.out true)
                  have G := Lib.hid (FL.out true)
                  rw [hf] at F
                  rw [MT.out hf] at G
                  clear hf
                  go_wp2_with (first | refine wpList_load_row rfl 26 _ rfl (g) rfl 26 (trk x) (0, 0) _ HT.out Try.underlying26 rfl (trk_info _) ?_ | refine load_guarded (by rfl) 26 _ rfl (g) rfl 26 (trk x) (0, 0) _ HT.out Try.underlying26 rfl (trk_info _) ?_)
                  refine (F.out _).mono ?_
                  rintro e w5 ⟨rfl, hb5⟩
                  have ht5 : w5.heap[g]? = some (.cells (trk x) 26 (0, 0)) := Blk.below (t := 26) (cs := trk x) HT.out hb5
                  have H5 := Lib.hid ht5
                  clear ht5
                  go_wp2_with (first | refine wpList_load_row rfl 26 _ rfl (g) rfl 26 (trk x) (0, 0) _ H5.out Try.underlying26 rfl (trk_info _) ?_ | refine load_guarded (by rfl) 26 _ rfl (g) rfl 26 (trk x) (0, 0) _ H5.out Try.underlying26 rfl (trk_info _) ?_)
                  refine (G.out _).mono ?_
                  rintro e w6 ⟨rfl, hb6⟩
                  go_wp2_with (fail)
                  go_roundw
                  case rel => exact ⟨1, by omega, by go_num, Blk.below (t := 26) (cs := trk x) H5.out hb6, below_trans (below_trans hbel2 hb5) hb6⟩
                  case measure => simp [intOf]
              · cases hf : flapsF x false hi hi
                · have F := Lib.hid (FH.out false)
                  rw [hf] at F
                  go_wp2_with (first | refine wpList_load_row rfl 26 _ rfl (g) rfl 26 (trk x) (0, 0) _ HT.out Try.underlying26 rfl (trk_info _) ?_ | refine load_guarded (by rfl) 26 _ rfl (g) rfl 26 (trk x) (0, 0) _ HT.out Try.underlying26 rfl (trk_info _) ?_)
                  refine (F.out _).mono ?_
                  rintro e w5 ⟨rfl, hb5⟩
                  go_wp2_with (fail)
                  go_roundw
                  case rel => exact ⟨2, by omega, by go_num, Blk.below (t := 26) (cs := trk x) HT.out hb5, below_trans hbel2 hb5⟩
                  case measure => simp [intOf]
                · have F := Lib.hid (FH.out false)
                  have G := Lib.hid (FL.out false)
                  rw [hf] at F
                  rw [MF.out hf] at G
                  clear hf
                  go_wp2_with (first | refine wpList_load_row rfl 26 _ rfl (g) rfl 26 (trk x) (0, 0) _ HT.out Try.underlying26 rfl (trk_info _) ?_ | refine load_guarded (by rfl) 26 _ rfl (g) rfl 26 (trk x) (0, 0) _ HT.out Try.underlying26 rfl (trk_info _) ?_)
                  refine (F.out _).mono ?_
                  rintro e w5 ⟨rfl, hb5⟩
                  have ht5 : w5.heap[g]? = some (.cells (trk x) 26 (0, 0)) := Blk.below (t := 26) (cs := trk x) HT.out hb5
                  have H5 := Lib.hid ht5
                  clear ht5
                  go_wp2_with (first | refine wpList_load_row rfl 26 _ rfl (g) rfl 26 (trk x) (0, 0) _ H5.out Try.underlying26 rfl (trk_info _) ?_ | refine load_guarded (by rfl) 26 _ rfl (g) rfl 26 (trk x) (0, 0) _ H5.out Try.underlying26 rfl (trk_info _) ?_)
                  refine (G.out _).mono ?_
                  rintro e w6 ⟨rfl, hb6⟩
                  go_wp2_with (fail)
                  go_roundw
                  case rel => exact ⟨2, by omega, by go_num, Blk.below (t := 26) (cs := trk x) H5.out hb6, below_trans (below_trans hbel2 hb5) hb6⟩
                  case measure => simp [intOf]
              · go_wp2_with (fail)
                refine (sure_walk _).mono ?_
                rintro e w5 ⟨rfl, hb5⟩
                go_wp2
                go_ret
                exact ⟨rfl, below_trans hbel2 hb5⟩
end Go.Proofs.Ytndipldjkojofaa
