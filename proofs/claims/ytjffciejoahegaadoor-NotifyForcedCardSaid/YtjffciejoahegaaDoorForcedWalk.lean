/- The law NotifyForced, walked. -/
import Derived.Test.YtjffciejoahegaaDoorSure
import Derived.Deep.RegionHeld3
import Derived.Deep.CutRange
namespace Go.Proofs.YtjffciejoahegaaDoor
open Go.RowKit
theorem WordsOk.far {w : World} (h : WordsOk w) {p : Addr} (hp : (0 : Nat) ≠ p.block) (u : Value) : WordsOk (w.setCell p u) := by
  have k : ∀ i, (w.setCell p u).cell? ⟨0, i, none⟩ = w.cell? ⟨0, i, none⟩ := fun i => by
    have e := Below.heap_setCell w p u 0 hp
    simp [World.cell?, e]
  exact ⟨(k _).trans h.1, (k _).trans h.2.1, (k _).trans h.2.2.1, (k _).trans h.2.2.2.1, (k _).trans h.2.2.2.2⟩
theorem ba (o p : Int) (b : Bool) (h : decide ((o / p) % 2 = 1) = b) : bitAt o p = b := h
theorem adm_254 (s op : Int) (en ti bl dn fl ac : Bool) : admF ⟨4, s, en, ti, bl, dn, fl, ac, op, 254⟩ = 0 := by
  simp [admF, holdsF, firstF, heldF, bitAt]
theorem adm_1 (s op : Int) (en ti bl dn fl ac : Bool) : admF ⟨4, s, en, ti, bl, dn, fl, ac, op, 252⟩ = if (!en) = true then 1 else 0 := by
  simp [admF, holdsF, firstF, heldF, bitAt, optN]
theorem adm_2 (s op : Int) (en ti bl dn fl ac : Bool) : admF ⟨4, s, en, ti, bl, dn, fl, ac, op, 250⟩ = if (!ti) = true then 2 else 0 := by
  simp [admF, holdsF, firstF, heldF, bitAt, optN]
theorem adm_3 (s op : Int) (en ti bl dn fl ac : Bool) : admF ⟨4, s, en, ti, bl, dn, fl, ac, op, 246⟩ = if (bl) = true then 3 else 0 := by
  simp [admF, holdsF, firstF, heldF, bitAt, optN]
theorem adm_4 (s op : Int) (en ti bl dn fl ac : Bool) : admF ⟨4, s, en, ti, bl, dn, fl, ac, op, 238⟩ = if (dn) = true then 4 else 0 := by
  simp [admF, holdsF, firstF, heldF, bitAt, optN]
theorem adm_5 (s op : Int) (en ti bl dn fl ac : Bool) : admF ⟨4, s, en, ti, bl, dn, fl, ac, op, 222⟩ = if (false) = true then 5 else 0 := by
  simp [admF, holdsF, firstF, heldF, bitAt, optN]
theorem adm_6 (s op : Int) (en ti bl dn fl ac : Bool) : admF ⟨4, s, en, ti, bl, dn, fl, ac, op, 190⟩ = if (false) = true then 6 else 0 := by
  simp [admF, holdsF, firstF, heldF, bitAt, optN]
theorem adm_7 (s op : Int) (en ti bl dn fl ac : Bool) : admF ⟨4, s, en, ti, bl, dn, fl, ac, op, 126⟩ = if (bits .and .i64 (bitF 4 s) op == 0) = true then 7 else 0 := by
  simp [admF, holdsF, firstF, heldF, bitAt, optN]
set_option maxRecDepth 100000 in
set_option maxHeartbeats 8000000 in
theorem forced_1 (s : Int) (en ti bl dn fl ac : Bool) (k0 op fo k : Int) (w : World) (hw : WordsOk w) (hc : 1 + (IntKind.u64.wrap k).tmod 7 = 1) :
    Calls Tryd.prog 3 #[.agg #[.int .i64 k0, .int .i64 s, .bool en, .bool ti, .bool bl, .bool dn, .bool fl, .bool ac, .int .i64 op, .int .i64 fo], .int .i64 k] w fun e w' => e = .returned (.bool true) ∧ Below w.heap.size w w' := by
  obtain ⟨u1, u2⟩ := u64m_bd k 7 (by decide)
  have HB := Lib.hid (bit_walk 4 s)
  go_enter Tryd.func3, Tryd.ntmps3
  have q5 := Blk.new1 w (.cells #[.int .i64 k0, .int .i64 s, .bool en, .bool ti, .bool bl, .bool dn, .bool fl, .bool ac, .int .i64 op, .int .i64 fo] 23) 24 #[.int .i64 4, .int .i64 s, .bool en, .bool ti, .bool bl, .bool dn, .bool fl, .bool ac, .int .i64 op, .int .i64 254]
  have w5 := (hw.alloc (.cells #[.int .i64 k0, .int .i64 s, .bool en, .bool ti, .bool bl, .bool dn, .bool fl, .bool ac, .int .i64 op, .int .i64 fo] 23)).alloc (.cells #[.int .i64 4, .int .i64 s, .bool en, .bool ti, .bool bl, .bool dn, .bool fl, .bool ac, .int .i64 op, .int .i64 254] 24)
  have B0 := below_al (below_al (Below.refl w.heap.size w) (.cells #[.int .i64 k0, .int .i64 s, .bool en, .bool ti, .bool bl, .bool dn, .bool fl, .bool ac, .int .i64 op, .int .i64 fo] 23)) (.cells #[.int .i64 4, .int .i64 s, .bool en, .bool ti, .bool bl, .bool dn, .bool fl, .bool ac, .int .i64 op, .int .i64 254] 24)
  have Q5 := Lib.hid q5; have W5 := Lib.hid w5; clear q5 w5 hw
  go_wp2_with (fail)
  refine (admit_walk ⟨4, s, en, ti, bl, dn, fl, ac, op, 254⟩ _).mono ?_
  rintro e w1 ⟨rfl, hb1⟩
  rw [adm_254]
  have b5 := Q5.out.below hb1
  have hw1 := W5.out.below hb1
  have B1 := below_trans B0 hb1
  have hgl : w.heap.size ≤ w.heap.size + 1 := by omega
  obtain ⟨⟨c0, c1, c2, c3, c4, c5, c6, c7, c8, c9⟩, ⟨f0, f1, f2, f3, f4, f5, f6, f7, f8, f9⟩, zl⟩ := cells10 b5
  have B5 := Lib.hid b5; have HW := Lib.hid hw1
  clear b5 hw1 Q5 W5 B0 hb1
  go_upto_region 6 with (fail)
  generalize hn : 1 + (IntKind.u64.wrap k).tmod 7 = n at *
  obtain rfl : n = 1 := hc
  have hand : bits .andNot .i64 254 2 = 252 := by decide
  go_upto_region 7 with (fail)
  have hwn : IntKind.i64.wrap 0 = 0 := by decide
  have b6 : Blk (w1.setCell ⟨w.heap.size + 1, 9, none⟩ (.int .i64 252)) (w.heap.size + 1) 24 #[.int .i64 4, .int .i64 s, .bool en, .bool ti, .bool bl, .bool dn, .bool fl, .bool ac, .int .i64 op, .int .i64 252] := B5.out.put 9 _ rfl
  have B6 : Below w.heap.size w (w1.setCell ⟨w.heap.size + 1, 9, none⟩ (.int .i64 252)) := B1.setCell (by simp) _
  have w6 : WordsOk (w1.setCell ⟨w.heap.size + 1, 9, none⟩ (.int .i64 252)) := HW.out.far (by simp) _
  clear hand c0 c1 c2 c3 c4 c5 c6 c7 c8 c9 f0 f1 f2 f3 f4 f5 f6 f7 f8 f9 zl B1 B5 HW
  generalize w1.setCell ⟨w.heap.size + 1, 9, none⟩ (.int .i64 252) = W at *
  generalize hgg : w.heap.size + 1 = g at *
  have hb := b6
  have W6 := Lib.hid w6; clear w6
  go_cut [7] (fun s7 wx => s7 = .bool (!en) ∧ Blk wx g 24 #[.int .i64 4, .int .i64 s, .bool en, .bool ti, .bool bl, .bool dn, .bool fl, .bool ac, .int .i64 op, .int .i64 252] ∧ WordsOk wx ∧ Below w.heap.size w wx)
  case first =>
    refine wp_region_noPanic ?_
    refine wp_region_held_drew (S := (fun w' => Blk w' g 24 #[.int .i64 4, .int .i64 s, .bool en, .bool ti, .bool bl, .bool dn, .bool fl, .bool ac, .int .i64 op, .int .i64 252] ∧ g < w'.heap.size ∧ w'.cell? ⟨g, 0, none⟩ = some (.int .i64 4) ∧ w'.cell? ⟨g, 1, none⟩ = some (.int .i64 s) ∧ w'.cell? ⟨g, 2, none⟩ = some (.bool en) ∧ w'.cell? ⟨g, 3, none⟩ = some (.bool ti) ∧ w'.cell? ⟨g, 4, none⟩ = some (.bool bl) ∧ w'.cell? ⟨g, 5, none⟩ = some (.bool dn) ∧ w'.cell? ⟨g, 6, none⟩ = some (.bool fl) ∧ w'.cell? ⟨g, 7, none⟩ = some (.bool ac) ∧ w'.cell? ⟨g, 8, none⟩ = some (.int .i64 op) ∧ w'.cell? ⟨g, 9, none⟩ = some (.int .i64 252))) (by kernel_rfl) ?_ (fun hHeld => ?_)
    · exact keep10 (Blk.drew hb)
    refine reg_take (i := 0) (oi := _) (v := ?_) rfl (by kernel_rfl) (by kernel_rfl) (by kernel_rfl) (fun _ _ _ h => h) (by rfl) ?_ (by assumption) ?_
    rotate_left
    · intro w hSw; (try dsimp only at hSw); go_simp; try with_reducible rfl
    (try simp only [Act.put, List.setIfInBounds_toArray, List.set_cons_zero, List.set_cons_succ])
    refine reg_take (i := 1) (oi := _) (v := ?_) rfl (by kernel_rfl) (by kernel_rfl) (by kernel_rfl) (fun _ _ _ h => h) (by rfl) ?_ (by assumption) ?_
    rotate_left
    · intro w hSw; (try dsimp only at hSw); go_simp; try with_reducible rfl
    (try simp only [Act.put, List.setIfInBounds_toArray, List.set_cons_zero, List.set_cons_succ])
    refine reg_take (i := 2) (oi := _) (v := ?_) rfl (by kernel_rfl) (by kernel_rfl) (by kernel_rfl) (fun _ _ _ h => h) (by rfl) ?_ (by assumption) ?_
    rotate_left
    · intro w hSw; (try dsimp only at hSw); go_simp; try with_reducible rfl
    (try simp only [Act.put, List.setIfInBounds_toArray, List.set_cons_zero, List.set_cons_succ])
    refine reg_take (i := 3) (oi := _) (v := ?_) rfl (by kernel_rfl) (by kernel_rfl) (by kernel_rfl) (fun _ _ _ h => h) (by rfl) ?_ (by assumption) ?_
    rotate_left
    · intro w hSw; (try dsimp only at hSw); go_simp; try with_reducible rfl
    (try simp only [Act.put, List.setIfInBounds_toArray, List.set_cons_zero, List.set_cons_succ])
    refine reg_take (i := 4) (oi := _) (v := ?_) rfl (by kernel_rfl) (by kernel_rfl) (by kernel_rfl) (fun _ _ _ h => h) (by rfl) ?_ (by assumption) ?_
    rotate_left
    · intro w hSw; (try dsimp only at hSw); go_simp; try with_reducible rfl
    (try simp only [Act.put, List.setIfInBounds_toArray, List.set_cons_zero, List.set_cons_succ])
    refine reg_take (i := 5) (oi := _) (v := ?_) rfl (by kernel_rfl) (by kernel_rfl) (by kernel_rfl) (fun _ _ _ h => h) (by rfl) ?_ (by assumption) ?_
    rotate_left
    · intro w hSw; (try dsimp only at hSw); go_simp; try with_reducible rfl
    (try simp only [Act.put, List.setIfInBounds_toArray, List.set_cons_zero, List.set_cons_succ])
    refine reg_take (i := 6) (oi := _) (v := ?_) rfl (by kernel_rfl) (by kernel_rfl) (by kernel_rfl) (fun _ _ _ h => h) (by rfl) ?_ (by assumption) ?_
    rotate_left
    · intro w hSw; (try dsimp only at hSw); go_simp; try with_reducible rfl
    (try simp only [Act.put, List.setIfInBounds_toArray, List.set_cons_zero, List.set_cons_succ])
    refine reg_take (i := 7) (oi := _) (v := ?_) rfl (by kernel_rfl) (by kernel_rfl) (by kernel_rfl) (fun _ _ _ h => h) (by rfl) ?_ (by assumption) ?_
    rotate_left
    · intro w hSw; (try dsimp only at hSw); go_simp; try with_reducible rfl
    (try simp only [Act.put, List.setIfInBounds_toArray, List.set_cons_zero, List.set_cons_succ])
    refine reg_take (i := 8) (oi := _) (v := ?_) rfl (by kernel_rfl) (by kernel_rfl) (by kernel_rfl) (fun _ _ _ h => h) (by rfl) ?_ (by assumption) ?_
    rotate_left
    · intro w hSw; (try dsimp only at hSw); go_simp; try with_reducible rfl
    (try simp only [Act.put, List.setIfInBounds_toArray, List.set_cons_zero, List.set_cons_succ])
    refine reg_take (i := 9) (oi := _) (v := ?_) rfl (by kernel_rfl) (by kernel_rfl) (by kernel_rfl) (fun _ _ _ h => h) (by rfl) ?_ (by assumption) ?_
    rotate_left
    · intro w hSw; (try dsimp only at hSw); go_simp; try with_reducible rfl
    (try simp only [Act.put, List.setIfInBounds_toArray, List.set_cons_zero, List.set_cons_succ])
    refine reg_take (i := 10) (oi := _) (v := ?_) rfl (by kernel_rfl) (by kernel_rfl) (by kernel_rfl) (fun _ _ _ h => h) (by rfl) ?_ (by assumption) ?_
    rotate_left
    · intro w hSw; (try dsimp only at hSw); go_simp; try with_reducible rfl
    (try simp only [Act.put, List.setIfInBounds_toArray, List.set_cons_zero, List.set_cons_succ])
    refine reg_take (i := 11) (oi := _) (v := ?_) rfl (by kernel_rfl) (by kernel_rfl) (by kernel_rfl) (fun _ _ _ h => h) (by rfl) ?_ (by assumption) ?_
    rotate_left
    · intro w hSw; (try dsimp only at hSw); go_simp; try with_reducible rfl
    (try simp only [Act.put, List.setIfInBounds_toArray, List.set_cons_zero, List.set_cons_succ])
    refine reg_take (i := 12) (oi := _) (v := ?_) rfl (by kernel_rfl) (by kernel_rfl) (by kernel_rfl) (fun _ _ _ h => h) (by rfl) ?_ (by assumption) ?_
    rotate_left
    · intro w hSw; (try dsimp only at hSw); go_simp; try with_reducible rfl
    (try simp only [Act.put, List.setIfInBounds_toArray, List.set_cons_zero, List.set_cons_succ])
    refine reg_take (i := 13) (oi := _) (v := ?_) rfl (by kernel_rfl) (by kernel_rfl) (by kernel_rfl) (fun _ _ _ h => h) (by rfl) ?_ (by assumption) ?_
    rotate_left
    · intro w hSw; (try dsimp only at hSw); go_simp; try with_reducible rfl
    (try simp only [Act.put, List.setIfInBounds_toArray, List.set_cons_zero, List.set_cons_succ])
    refine reg_take (i := 15) (oi := _) (v := ?_) rfl (by kernel_rfl) (by kernel_rfl) (by kernel_rfl) (fun _ _ _ h => h) (by rfl) ?_ (by assumption) ?_
    rotate_left
    · intro w hSw; (try dsimp only at hSw); go_simp; try with_reducible rfl
    (try simp only [Act.put, List.setIfInBounds_toArray, List.set_cons_zero, List.set_cons_succ])
    refine reg_take (i := 16) (oi := _) (v := ?_) rfl (by kernel_rfl) (by kernel_rfl) (by kernel_rfl) (fun _ _ _ h => h) (by rfl) ?_ (by assumption) ?_
    rotate_left
    · intro w hSw; (try dsimp only at hSw); go_simp; try with_reducible rfl
    (try simp only [Act.put, List.setIfInBounds_toArray, List.set_cons_zero, List.set_cons_succ])
    refine reg_take (i := 20) (oi := _) (v := ?_) rfl (by kernel_rfl) (by kernel_rfl) (by kernel_rfl) (fun _ _ _ h => h) (by rfl) ?_ (by assumption) ?_
    rotate_left
    · intro w hSw; (try dsimp only at hSw); go_simp; try with_reducible rfl
    (try simp only [Act.put, List.setIfInBounds_toArray, List.set_cons_zero, List.set_cons_succ])
    refine reg_take (i := 21) (oi := _) (v := ?_) rfl (by kernel_rfl) (by kernel_rfl) (by kernel_rfl) (fun _ _ _ h => h) (by rfl) ?_ (by assumption) ?_
    rotate_left
    · intro w hSw; (try dsimp only at hSw); go_simp; try with_reducible rfl
    (try simp only [Act.put, List.setIfInBounds_toArray, List.set_cons_zero, List.set_cons_succ])
    refine wpAnyH_ready (rs := [14]) (by kernel_rfl) (by simp) ?_
    refine reg_each (o := _) rfl (fun K hK => ?_) ?_
    · skip
      go_simp
      refine (HB.out _).mono ?_
      rintro e w2 ⟨rfl, rfl⟩
      go_wp2_with (fail)
      refine hK.out _ _ ?_ (fun hHeld2 => ?_)
      · exact keep10 hHeld.1
      clear hK K hHeld
      have hHeld := hHeld2
      clear hHeld2
      (try simp only [Act.put, List.setIfInBounds_toArray, List.set_cons_zero, List.set_cons_succ])
      refine reg_take (i := 17) (oi := _) (v := ?_) rfl (by kernel_rfl) (by kernel_rfl) (by kernel_rfl) (fun _ _ _ h => h) (by rfl) ?_ (by assumption) ?_
      rotate_left
      · intro w hSw; (try dsimp only at hSw); go_simp; try with_reducible rfl
      (try simp only [Act.put, List.setIfInBounds_toArray, List.set_cons_zero, List.set_cons_succ])
      refine reg_take (i := 18) (oi := _) (v := ?_) rfl (by kernel_rfl) (by kernel_rfl) (by kernel_rfl) (fun _ _ _ h => h) (by rfl) ?_ (by assumption) ?_
      rotate_left
      · intro w hSw; (try dsimp only at hSw); go_simp; try with_reducible rfl
      (try simp only [Act.put, List.setIfInBounds_toArray, List.set_cons_zero, List.set_cons_succ])
      refine wpAnyH_ready (rs := [19]) (by kernel_rfl) (by simp) ?_
      refine reg_each (o := _) rfl (fun K hK => ?_) ?_
      · skip
        go_simp
        refine hK.out _ _ ?_ (fun hHeld2 => ?_)
        · first | exact keep10 (Blk.drew (Blk.alloc hb _)) | exact keep10 (Blk.alloc (Blk.drew hb) _)
        clear hK K hHeld
        have hHeld := hHeld2
        clear hHeld2
        (try simp only [Act.put, List.setIfInBounds_toArray, List.set_cons_zero, List.set_cons_succ])
        refine reg_take (i := 22) (oi := _) (v := ?_) rfl (by kernel_rfl) (by kernel_rfl) (by kernel_rfl) (fun _ _ _ h => h) (by rfl) ?_ (by assumption) ?_
        rotate_left
        · intro w hSw; (try dsimp only at hSw); go_simp; try with_reducible rfl
        (try simp only [Act.put, List.setIfInBounds_toArray, List.set_cons_zero, List.set_cons_succ])
        refine wpAnyH_ready (rs := [23]) (by kernel_rfl) (by simp) ?_
        refine reg_each (o := _) rfl (fun K hK => ?_) ?_
        · skip
          go_simp
          refine hK.out _ _ ?_ (fun hHeld2 => ?_)
          · exact hHeld
          clear hK K hHeld
          have hHeld := hHeld2
          clear hHeld2
          (try simp only [Act.put, List.setIfInBounds_toArray, List.set_cons_zero, List.set_cons_succ])
          refine reg_take (i := 24) (oi := _) (v := ?_) rfl (by kernel_rfl) (by kernel_rfl) (by kernel_rfl) (fun _ _ _ h => h) (by rfl) ?_ (by assumption) ?_
          rotate_left
          · intro w hSw; (try dsimp only at hSw); go_simp; try with_reducible rfl
          (try simp only [Act.put, List.setIfInBounds_toArray, List.set_cons_zero, List.set_cons_succ])
          refine wpAnyH_done (by kernel_rfl) ?_ _
          refine NoPanic.normal ?_
          go_wp2_with (fail)
          go_meet
          exact ⟨rfl, Blk.drew (Blk.alloc hb _), (W6.out.alloc _).drew, below_drewN (B6.alloc B6.size _) 1⟩
        exact AllReadyH.nil
      exact AllReadyH.nil
    exact AllReadyH.nil
  case rest =>
    obtain ⟨rfl, b7, w7, B7⟩ := hcut
    clear hb b6 W6 B6
    have A2 := fun w => admit_walk ⟨4, s, en, ti, bl, dn, fl, ac, op, 252⟩ w
    rw [adm_1] at A2
    unfold Cs.cells at A2
    dsimp only at A2
    have HA := Lib.hid A2; clear A2
    have W7 := Lib.hid w7; clear w7
    obtain ⟨⟨c0, c1, c2, c3, c4, c5, c6, c7, c8, c9⟩, _, zl⟩ := cells10 b7
    clear b7
    cases en
    · simp only [Bool.not_false, if_true] at HA
      go_wp2_with (fail)
      refine (HA.out _).mono ?_
      rintro e w8 ⟨rfl, hb8⟩
      go_wp2_with (fail)
      refine (sure_walk _ (W7.out.below hb8)).mono ?_
      rintro e w9 ⟨rfl, hb9⟩
      go_wp2
      go_ret
      exact ⟨rfl, below_trans (below_trans B7 hb8) hb9⟩
    · simp only [Bool.not_true, Bool.false_eq_true, if_false] at HA
      go_wp2_with (fail)
      refine (HA.out _).mono ?_
      rintro e w8 ⟨rfl, hb8⟩
      go_wp2_with (fail)
      refine (sure_walk _ (W7.out.below hb8)).mono ?_
      rintro e w9 ⟨rfl, hb9⟩
      go_wp2
      go_ret
      exact ⟨rfl, below_trans (below_trans B7 hb8) hb9⟩
set_option maxRecDepth 100000 in
set_option maxHeartbeats 8000000 in
theorem forced_2 (s : Int) (en ti bl dn fl ac : Bool) (k0 op fo k : Int) (w : World) (hw : WordsOk w) (hc : 1 + (IntKind.u64.wrap k).tmod 7 = 2) :
    Calls Tryd.prog 3 #[.agg #[.int .i64 k0, .int .i64 s, .bool en, .bool ti, .bool bl, .bool dn, .bool fl, .bool ac, .int .i64 op, .int .i64 fo], .int .i64 k] w fun e w' => e = .returned (.bool true) ∧ Below w.heap.size w w' := by
  obtain ⟨u1, u2⟩ := u64m_bd k 7 (by decide)
  have HB := Lib.hid (bit_walk 4 s)
  go_enter Tryd.func3, Tryd.ntmps3
  have q5 := Blk.new1 w (.cells #[.int .i64 k0, .int .i64 s, .bool en, .bool ti, .bool bl, .bool dn, .bool fl, .bool ac, .int .i64 op, .int .i64 fo] 23) 24 #[.int .i64 4, .int .i64 s, .bool en, .bool ti, .bool bl, .bool dn, .bool fl, .bool ac, .int .i64 op, .int .i64 254]
  have w5 := (hw.alloc (.cells #[.int .i64 k0, .int .i64 s, .bool en, .bool ti, .bool bl, .bool dn, .bool fl, .bool ac, .int .i64 op, .int .i64 fo] 23)).alloc (.cells #[.int .i64 4, .int .i64 s, .bool en, .bool ti, .bool bl, .bool dn, .bool fl, .bool ac, .int .i64 op, .int .i64 254] 24)
  have B0 := below_al (below_al (Below.refl w.heap.size w) (.cells #[.int .i64 k0, .int .i64 s, .bool en, .bool ti, .bool bl, .bool dn, .bool fl, .bool ac, .int .i64 op, .int .i64 fo] 23)) (.cells #[.int .i64 4, .int .i64 s, .bool en, .bool ti, .bool bl, .bool dn, .bool fl, .bool ac, .int .i64 op, .int .i64 254] 24)
  have Q5 := Lib.hid q5; have W5 := Lib.hid w5; clear q5 w5 hw
  go_wp2_with (fail)
  refine (admit_walk ⟨4, s, en, ti, bl, dn, fl, ac, op, 254⟩ _).mono ?_
  rintro e w1 ⟨rfl, hb1⟩
  rw [adm_254]
  have b5 := Q5.out.below hb1
  have hw1 := W5.out.below hb1
  have B1 := below_trans B0 hb1
  have hgl : w.heap.size ≤ w.heap.size + 1 := by omega
  obtain ⟨⟨c0, c1, c2, c3, c4, c5, c6, c7, c8, c9⟩, ⟨f0, f1, f2, f3, f4, f5, f6, f7, f8, f9⟩, zl⟩ := cells10 b5
  have B5 := Lib.hid b5; have HW := Lib.hid hw1
  clear b5 hw1 Q5 W5 B0 hb1
  go_upto_region 6 with (fail)
  generalize hn : 1 + (IntKind.u64.wrap k).tmod 7 = n at *
  obtain rfl : n = 2 := hc
  have hand : bits .andNot .i64 254 4 = 250 := by decide
  go_upto_region 7 with (fail)
  have hwn : IntKind.i64.wrap 1 = 1 := by decide
  have b6 : Blk (w1.setCell ⟨w.heap.size + 1, 9, none⟩ (.int .i64 250)) (w.heap.size + 1) 24 #[.int .i64 4, .int .i64 s, .bool en, .bool ti, .bool bl, .bool dn, .bool fl, .bool ac, .int .i64 op, .int .i64 250] := B5.out.put 9 _ rfl
  have B6 : Below w.heap.size w (w1.setCell ⟨w.heap.size + 1, 9, none⟩ (.int .i64 250)) := B1.setCell (by simp) _
  have w6 : WordsOk (w1.setCell ⟨w.heap.size + 1, 9, none⟩ (.int .i64 250)) := HW.out.far (by simp) _
  clear hand c0 c1 c2 c3 c4 c5 c6 c7 c8 c9 f0 f1 f2 f3 f4 f5 f6 f7 f8 f9 zl B1 B5 HW
  generalize w1.setCell ⟨w.heap.size + 1, 9, none⟩ (.int .i64 250) = W at *
  generalize hgg : w.heap.size + 1 = g at *
  have hb := b6
  have W6 := Lib.hid w6; clear w6
  go_cut [7] (fun s7 wx => s7 = .bool (!ti) ∧ Blk wx g 24 #[.int .i64 4, .int .i64 s, .bool en, .bool ti, .bool bl, .bool dn, .bool fl, .bool ac, .int .i64 op, .int .i64 250] ∧ WordsOk wx ∧ Below w.heap.size w wx)
  case first =>
    refine wp_region_noPanic ?_
    refine wp_region_held_drew (S := (fun w' => Blk w' g 24 #[.int .i64 4, .int .i64 s, .bool en, .bool ti, .bool bl, .bool dn, .bool fl, .bool ac, .int .i64 op, .int .i64 250] ∧ g < w'.heap.size ∧ w'.cell? ⟨g, 0, none⟩ = some (.int .i64 4) ∧ w'.cell? ⟨g, 1, none⟩ = some (.int .i64 s) ∧ w'.cell? ⟨g, 2, none⟩ = some (.bool en) ∧ w'.cell? ⟨g, 3, none⟩ = some (.bool ti) ∧ w'.cell? ⟨g, 4, none⟩ = some (.bool bl) ∧ w'.cell? ⟨g, 5, none⟩ = some (.bool dn) ∧ w'.cell? ⟨g, 6, none⟩ = some (.bool fl) ∧ w'.cell? ⟨g, 7, none⟩ = some (.bool ac) ∧ w'.cell? ⟨g, 8, none⟩ = some (.int .i64 op) ∧ w'.cell? ⟨g, 9, none⟩ = some (.int .i64 250))) (by kernel_rfl) ?_ (fun hHeld => ?_)
    · exact keep10 (Blk.drew hb)
    refine reg_take (i := 0) (oi := _) (v := ?_) rfl (by kernel_rfl) (by kernel_rfl) (by kernel_rfl) (fun _ _ _ h => h) (by rfl) ?_ (by assumption) ?_
    rotate_left
    · intro w hSw; (try dsimp only at hSw); go_simp; try with_reducible rfl
    (try simp only [Act.put, List.setIfInBounds_toArray, List.set_cons_zero, List.set_cons_succ])
    refine reg_take (i := 1) (oi := _) (v := ?_) rfl (by kernel_rfl) (by kernel_rfl) (by kernel_rfl) (fun _ _ _ h => h) (by rfl) ?_ (by assumption) ?_
    rotate_left
    · intro w hSw; (try dsimp only at hSw); go_simp; try with_reducible rfl
    (try simp only [Act.put, List.setIfInBounds_toArray, List.set_cons_zero, List.set_cons_succ])
    refine reg_take (i := 2) (oi := _) (v := ?_) rfl (by kernel_rfl) (by kernel_rfl) (by kernel_rfl) (fun _ _ _ h => h) (by rfl) ?_ (by assumption) ?_
    rotate_left
    · intro w hSw; (try dsimp only at hSw); go_simp; try with_reducible rfl
    (try simp only [Act.put, List.setIfInBounds_toArray, List.set_cons_zero, List.set_cons_succ])
    refine reg_take (i := 3) (oi := _) (v := ?_) rfl (by kernel_rfl) (by kernel_rfl) (by kernel_rfl) (fun _ _ _ h => h) (by rfl) ?_ (by assumption) ?_
    rotate_left
    · intro w hSw; (try dsimp only at hSw); go_simp; try with_reducible rfl
    (try simp only [Act.put, List.setIfInBounds_toArray, List.set_cons_zero, List.set_cons_succ])
    refine reg_take (i := 4) (oi := _) (v := ?_) rfl (by kernel_rfl) (by kernel_rfl) (by kernel_rfl) (fun _ _ _ h => h) (by rfl) ?_ (by assumption) ?_
    rotate_left
    · intro w hSw; (try dsimp only at hSw); go_simp; try with_reducible rfl
    (try simp only [Act.put, List.setIfInBounds_toArray, List.set_cons_zero, List.set_cons_succ])
    refine reg_take (i := 5) (oi := _) (v := ?_) rfl (by kernel_rfl) (by kernel_rfl) (by kernel_rfl) (fun _ _ _ h => h) (by rfl) ?_ (by assumption) ?_
    rotate_left
    · intro w hSw; (try dsimp only at hSw); go_simp; try with_reducible rfl
    (try simp only [Act.put, List.setIfInBounds_toArray, List.set_cons_zero, List.set_cons_succ])
    refine reg_take (i := 6) (oi := _) (v := ?_) rfl (by kernel_rfl) (by kernel_rfl) (by kernel_rfl) (fun _ _ _ h => h) (by rfl) ?_ (by assumption) ?_
    rotate_left
    · intro w hSw; (try dsimp only at hSw); go_simp; try with_reducible rfl
    (try simp only [Act.put, List.setIfInBounds_toArray, List.set_cons_zero, List.set_cons_succ])
    refine reg_take (i := 7) (oi := _) (v := ?_) rfl (by kernel_rfl) (by kernel_rfl) (by kernel_rfl) (fun _ _ _ h => h) (by rfl) ?_ (by assumption) ?_
    rotate_left
    · intro w hSw; (try dsimp only at hSw); go_simp; try with_reducible rfl
    (try simp only [Act.put, List.setIfInBounds_toArray, List.set_cons_zero, List.set_cons_succ])
    refine reg_take (i := 8) (oi := _) (v := ?_) rfl (by kernel_rfl) (by kernel_rfl) (by kernel_rfl) (fun _ _ _ h => h) (by rfl) ?_ (by assumption) ?_
    rotate_left
    · intro w hSw; (try dsimp only at hSw); go_simp; try with_reducible rfl
    (try simp only [Act.put, List.setIfInBounds_toArray, List.set_cons_zero, List.set_cons_succ])
    refine reg_take (i := 9) (oi := _) (v := ?_) rfl (by kernel_rfl) (by kernel_rfl) (by kernel_rfl) (fun _ _ _ h => h) (by rfl) ?_ (by assumption) ?_
    rotate_left
    · intro w hSw; (try dsimp only at hSw); go_simp; try with_reducible rfl
    (try simp only [Act.put, List.setIfInBounds_toArray, List.set_cons_zero, List.set_cons_succ])
    refine reg_take (i := 10) (oi := _) (v := ?_) rfl (by kernel_rfl) (by kernel_rfl) (by kernel_rfl) (fun _ _ _ h => h) (by rfl) ?_ (by assumption) ?_
    rotate_left
    · intro w hSw; (try dsimp only at hSw); go_simp; try with_reducible rfl
    (try simp only [Act.put, List.setIfInBounds_toArray, List.set_cons_zero, List.set_cons_succ])
    refine reg_take (i := 11) (oi := _) (v := ?_) rfl (by kernel_rfl) (by kernel_rfl) (by kernel_rfl) (fun _ _ _ h => h) (by rfl) ?_ (by assumption) ?_
    rotate_left
    · intro w hSw; (try dsimp only at hSw); go_simp; try with_reducible rfl
    (try simp only [Act.put, List.setIfInBounds_toArray, List.set_cons_zero, List.set_cons_succ])
    refine reg_take (i := 12) (oi := _) (v := ?_) rfl (by kernel_rfl) (by kernel_rfl) (by kernel_rfl) (fun _ _ _ h => h) (by rfl) ?_ (by assumption) ?_
    rotate_left
    · intro w hSw; (try dsimp only at hSw); go_simp; try with_reducible rfl
    (try simp only [Act.put, List.setIfInBounds_toArray, List.set_cons_zero, List.set_cons_succ])
    refine reg_take (i := 13) (oi := _) (v := ?_) rfl (by kernel_rfl) (by kernel_rfl) (by kernel_rfl) (fun _ _ _ h => h) (by rfl) ?_ (by assumption) ?_
    rotate_left
    · intro w hSw; (try dsimp only at hSw); go_simp; try with_reducible rfl
    (try simp only [Act.put, List.setIfInBounds_toArray, List.set_cons_zero, List.set_cons_succ])
    refine reg_take (i := 15) (oi := _) (v := ?_) rfl (by kernel_rfl) (by kernel_rfl) (by kernel_rfl) (fun _ _ _ h => h) (by rfl) ?_ (by assumption) ?_
    rotate_left
    · intro w hSw; (try dsimp only at hSw); go_simp; try with_reducible rfl
    (try simp only [Act.put, List.setIfInBounds_toArray, List.set_cons_zero, List.set_cons_succ])
    refine reg_take (i := 16) (oi := _) (v := ?_) rfl (by kernel_rfl) (by kernel_rfl) (by kernel_rfl) (fun _ _ _ h => h) (by rfl) ?_ (by assumption) ?_
    rotate_left
    · intro w hSw; (try dsimp only at hSw); go_simp; try with_reducible rfl
    (try simp only [Act.put, List.setIfInBounds_toArray, List.set_cons_zero, List.set_cons_succ])
    refine reg_take (i := 20) (oi := _) (v := ?_) rfl (by kernel_rfl) (by kernel_rfl) (by kernel_rfl) (fun _ _ _ h => h) (by rfl) ?_ (by assumption) ?_
    rotate_left
    · intro w hSw; (try dsimp only at hSw); go_simp; try with_reducible rfl
    (try simp only [Act.put, List.setIfInBounds_toArray, List.set_cons_zero, List.set_cons_succ])
    refine reg_take (i := 21) (oi := _) (v := ?_) rfl (by kernel_rfl) (by kernel_rfl) (by kernel_rfl) (fun _ _ _ h => h) (by rfl) ?_ (by assumption) ?_
    rotate_left
    · intro w hSw; (try dsimp only at hSw); go_simp; try with_reducible rfl
    (try simp only [Act.put, List.setIfInBounds_toArray, List.set_cons_zero, List.set_cons_succ])
    refine wpAnyH_ready (rs := [14]) (by kernel_rfl) (by simp) ?_
    refine reg_each (o := _) rfl (fun K hK => ?_) ?_
    · skip
      go_simp
      refine (HB.out _).mono ?_
      rintro e w2 ⟨rfl, rfl⟩
      go_wp2_with (fail)
      refine hK.out _ _ ?_ (fun hHeld2 => ?_)
      · exact keep10 hHeld.1
      clear hK K hHeld
      have hHeld := hHeld2
      clear hHeld2
      (try simp only [Act.put, List.setIfInBounds_toArray, List.set_cons_zero, List.set_cons_succ])
      refine reg_take (i := 17) (oi := _) (v := ?_) rfl (by kernel_rfl) (by kernel_rfl) (by kernel_rfl) (fun _ _ _ h => h) (by rfl) ?_ (by assumption) ?_
      rotate_left
      · intro w hSw; (try dsimp only at hSw); go_simp; try with_reducible rfl
      (try simp only [Act.put, List.setIfInBounds_toArray, List.set_cons_zero, List.set_cons_succ])
      refine reg_take (i := 18) (oi := _) (v := ?_) rfl (by kernel_rfl) (by kernel_rfl) (by kernel_rfl) (fun _ _ _ h => h) (by rfl) ?_ (by assumption) ?_
      rotate_left
      · intro w hSw; (try dsimp only at hSw); go_simp; try with_reducible rfl
      (try simp only [Act.put, List.setIfInBounds_toArray, List.set_cons_zero, List.set_cons_succ])
      refine wpAnyH_ready (rs := [19]) (by kernel_rfl) (by simp) ?_
      refine reg_each (o := _) rfl (fun K hK => ?_) ?_
      · skip
        go_simp
        refine hK.out _ _ ?_ (fun hHeld2 => ?_)
        · first | exact keep10 (Blk.drew (Blk.alloc hb _)) | exact keep10 (Blk.alloc (Blk.drew hb) _)
        clear hK K hHeld
        have hHeld := hHeld2
        clear hHeld2
        (try simp only [Act.put, List.setIfInBounds_toArray, List.set_cons_zero, List.set_cons_succ])
        refine reg_take (i := 22) (oi := _) (v := ?_) rfl (by kernel_rfl) (by kernel_rfl) (by kernel_rfl) (fun _ _ _ h => h) (by rfl) ?_ (by assumption) ?_
        rotate_left
        · intro w hSw; (try dsimp only at hSw); go_simp; try with_reducible rfl
        (try simp only [Act.put, List.setIfInBounds_toArray, List.set_cons_zero, List.set_cons_succ])
        refine wpAnyH_ready (rs := [23]) (by kernel_rfl) (by simp) ?_
        refine reg_each (o := _) rfl (fun K hK => ?_) ?_
        · skip
          go_simp
          refine hK.out _ _ ?_ (fun hHeld2 => ?_)
          · exact hHeld
          clear hK K hHeld
          have hHeld := hHeld2
          clear hHeld2
          (try simp only [Act.put, List.setIfInBounds_toArray, List.set_cons_zero, List.set_cons_succ])
          refine reg_take (i := 24) (oi := _) (v := ?_) rfl (by kernel_rfl) (by kernel_rfl) (by kernel_rfl) (fun _ _ _ h => h) (by rfl) ?_ (by assumption) ?_
          rotate_left
          · intro w hSw; (try dsimp only at hSw); go_simp; try with_reducible rfl
          (try simp only [Act.put, List.setIfInBounds_toArray, List.set_cons_zero, List.set_cons_succ])
          refine wpAnyH_done (by kernel_rfl) ?_ _
          refine NoPanic.normal ?_
          go_wp2_with (fail)
          go_meet
          exact ⟨rfl, Blk.drew (Blk.alloc hb _), (W6.out.alloc _).drew, below_drewN (B6.alloc B6.size _) 1⟩
        exact AllReadyH.nil
      exact AllReadyH.nil
    exact AllReadyH.nil
  case rest =>
    obtain ⟨rfl, b7, w7, B7⟩ := hcut
    clear hb b6 W6 B6
    have A2 := fun w => admit_walk ⟨4, s, en, ti, bl, dn, fl, ac, op, 250⟩ w
    rw [adm_2] at A2
    unfold Cs.cells at A2
    dsimp only at A2
    have HA := Lib.hid A2; clear A2
    have W7 := Lib.hid w7; clear w7
    obtain ⟨⟨c0, c1, c2, c3, c4, c5, c6, c7, c8, c9⟩, _, zl⟩ := cells10 b7
    clear b7
    cases ti
    · simp only [Bool.not_false, if_true] at HA
      go_wp2_with (fail)
      refine (HA.out _).mono ?_
      rintro e w8 ⟨rfl, hb8⟩
      go_wp2_with (fail)
      refine (sure_walk _ (W7.out.below hb8)).mono ?_
      rintro e w9 ⟨rfl, hb9⟩
      go_wp2
      go_ret
      exact ⟨rfl, below_trans (below_trans B7 hb8) hb9⟩
    · simp only [Bool.not_true, Bool.false_eq_true, if_false] at HA
      go_wp2_with (fail)
      refine (HA.out _).mono ?_
      rintro e w8 ⟨rfl, hb8⟩
      go_wp2_with (fail)
      refine (sure_walk _ (W7.out.below hb8)).mono ?_
      rintro e w9 ⟨rfl, hb9⟩
      go_wp2
      go_ret
      exact ⟨rfl, below_trans (below_trans B7 hb8) hb9⟩
set_option maxRecDepth 100000 in
set_option maxHeartbeats 8000000 in
theorem forced_3 (s : Int) (en ti bl dn fl ac : Bool) (k0 op fo k : Int) (w : World) (hw : WordsOk w) (hc : 1 + (IntKind.u64.wrap k).tmod 7 = 3) :
    Calls Tryd.prog 3 #[.agg #[.int .i64 k0, .int .i64 s, .bool en, .bool ti, .bool bl, .bool dn, .bool fl, .bool ac, .int .i64 op, .int .i64 fo], .int .i64 k] w fun e w' => e = .returned (.bool true) ∧ Below w.heap.size w w' := by
  obtain ⟨u1, u2⟩ := u64m_bd k 7 (by decide)
  have HB := Lib.hid (bit_walk 4 s)
  go_enter Tryd.func3, Tryd.ntmps3
  have q5 := Blk.new1 w (.cells #[.int .i64 k0, .int .i64 s, .bool en, .bool ti, .bool bl, .bool dn, .bool fl, .bool ac, .int .i64 op, .int .i64 fo] 23) 24 #[.int .i64 4, .int .i64 s, .bool en, .bool ti, .bool bl, .bool dn, .bool fl, .bool ac, .int .i64 op, .int .i64 254]
  have w5 := (hw.alloc (.cells #[.int .i64 k0, .int .i64 s, .bool en, .bool ti, .bool bl, .bool dn, .bool fl, .bool ac, .int .i64 op, .int .i64 fo] 23)).alloc (.cells #[.int .i64 4, .int .i64 s, .bool en, .bool ti, .bool bl, .bool dn, .bool fl, .bool ac, .int .i64 op, .int .i64 254] 24)
  have B0 := below_al (below_al (Below.refl w.heap.size w) (.cells #[.int .i64 k0, .int .i64 s, .bool en, .bool ti, .bool bl, .bool dn, .bool fl, .bool ac, .int .i64 op, .int .i64 fo] 23)) (.cells #[.int .i64 4, .int .i64 s, .bool en, .bool ti, .bool bl, .bool dn, .bool fl, .bool ac, .int .i64 op, .int .i64 254] 24)
  have Q5 := Lib.hid q5; have W5 := Lib.hid w5; clear q5 w5 hw
  go_wp2_with (fail)
  refine (admit_walk ⟨4, s, en, ti, bl, dn, fl, ac, op, 254⟩ _).mono ?_
  rintro e w1 ⟨rfl, hb1⟩
  rw [adm_254]
  have b5 := Q5.out.below hb1
  have hw1 := W5.out.below hb1
  have B1 := below_trans B0 hb1
  have hgl : w.heap.size ≤ w.heap.size + 1 := by omega
  obtain ⟨⟨c0, c1, c2, c3, c4, c5, c6, c7, c8, c9⟩, ⟨f0, f1, f2, f3, f4, f5, f6, f7, f8, f9⟩, zl⟩ := cells10 b5
  have B5 := Lib.hid b5; have HW := Lib.hid hw1
  clear b5 hw1 Q5 W5 B0 hb1
  go_upto_region 6 with (fail)
  generalize hn : 1 + (IntKind.u64.wrap k).tmod 7 = n at *
  obtain rfl : n = 3 := hc
  have hand : bits .andNot .i64 254 8 = 246 := by decide
  go_upto_region 7 with (fail)
  have hwn : IntKind.i64.wrap 2 = 2 := by decide
  have b6 : Blk (w1.setCell ⟨w.heap.size + 1, 9, none⟩ (.int .i64 246)) (w.heap.size + 1) 24 #[.int .i64 4, .int .i64 s, .bool en, .bool ti, .bool bl, .bool dn, .bool fl, .bool ac, .int .i64 op, .int .i64 246] := B5.out.put 9 _ rfl
  have B6 : Below w.heap.size w (w1.setCell ⟨w.heap.size + 1, 9, none⟩ (.int .i64 246)) := B1.setCell (by simp) _
  have w6 : WordsOk (w1.setCell ⟨w.heap.size + 1, 9, none⟩ (.int .i64 246)) := HW.out.far (by simp) _
  clear hand c0 c1 c2 c3 c4 c5 c6 c7 c8 c9 f0 f1 f2 f3 f4 f5 f6 f7 f8 f9 zl B1 B5 HW
  generalize w1.setCell ⟨w.heap.size + 1, 9, none⟩ (.int .i64 246) = W at *
  generalize hgg : w.heap.size + 1 = g at *
  have hb := b6
  have W6 := Lib.hid w6; clear w6
  go_cut [7] (fun s7 wx => s7 = .bool (bl) ∧ Blk wx g 24 #[.int .i64 4, .int .i64 s, .bool en, .bool ti, .bool bl, .bool dn, .bool fl, .bool ac, .int .i64 op, .int .i64 246] ∧ WordsOk wx ∧ Below w.heap.size w wx)
  case first =>
    refine wp_region_noPanic ?_
    refine wp_region_held_drew (S := (fun w' => Blk w' g 24 #[.int .i64 4, .int .i64 s, .bool en, .bool ti, .bool bl, .bool dn, .bool fl, .bool ac, .int .i64 op, .int .i64 246] ∧ g < w'.heap.size ∧ w'.cell? ⟨g, 0, none⟩ = some (.int .i64 4) ∧ w'.cell? ⟨g, 1, none⟩ = some (.int .i64 s) ∧ w'.cell? ⟨g, 2, none⟩ = some (.bool en) ∧ w'.cell? ⟨g, 3, none⟩ = some (.bool ti) ∧ w'.cell? ⟨g, 4, none⟩ = some (.bool bl) ∧ w'.cell? ⟨g, 5, none⟩ = some (.bool dn) ∧ w'.cell? ⟨g, 6, none⟩ = some (.bool fl) ∧ w'.cell? ⟨g, 7, none⟩ = some (.bool ac) ∧ w'.cell? ⟨g, 8, none⟩ = some (.int .i64 op) ∧ w'.cell? ⟨g, 9, none⟩ = some (.int .i64 246))) (by kernel_rfl) ?_ (fun hHeld => ?_)
    · exact keep10 (Blk.drew hb)
    refine reg_take (i := 0) (oi := _) (v := ?_) rfl (by kernel_rfl) (by kernel_rfl) (by kernel_rfl) (fun _ _ _ h => h) (by rfl) ?_ (by assumption) ?_
    rotate_left
    · intro w hSw; (try dsimp only at hSw); go_simp; try with_reducible rfl
    (try simp only [Act.put, List.setIfInBounds_toArray, List.set_cons_zero, List.set_cons_succ])
    refine reg_take (i := 1) (oi := _) (v := ?_) rfl (by kernel_rfl) (by kernel_rfl) (by kernel_rfl) (fun _ _ _ h => h) (by rfl) ?_ (by assumption) ?_
    rotate_left
    · intro w hSw; (try dsimp only at hSw); go_simp; try with_reducible rfl
    (try simp only [Act.put, List.setIfInBounds_toArray, List.set_cons_zero, List.set_cons_succ])
    refine reg_take (i := 2) (oi := _) (v := ?_) rfl (by kernel_rfl) (by kernel_rfl) (by kernel_rfl) (fun _ _ _ h => h) (by rfl) ?_ (by assumption) ?_
    rotate_left
    · intro w hSw; (try dsimp only at hSw); go_simp; try with_reducible rfl
    (try simp only [Act.put, List.setIfInBounds_toArray, List.set_cons_zero, List.set_cons_succ])
    refine reg_take (i := 3) (oi := _) (v := ?_) rfl (by kernel_rfl) (by kernel_rfl) (by kernel_rfl) (fun _ _ _ h => h) (by rfl) ?_ (by assumption) ?_
    rotate_left
    · intro w hSw; (try dsimp only at hSw); go_simp; try with_reducible rfl
    (try simp only [Act.put, List.setIfInBounds_toArray, List.set_cons_zero, List.set_cons_succ])
    refine reg_take (i := 4) (oi := _) (v := ?_) rfl (by kernel_rfl) (by kernel_rfl) (by kernel_rfl) (fun _ _ _ h => h) (by rfl) ?_ (by assumption) ?_
    rotate_left
    · intro w hSw; (try dsimp only at hSw); go_simp; try with_reducible rfl
    (try simp only [Act.put, List.setIfInBounds_toArray, List.set_cons_zero, List.set_cons_succ])
    refine reg_take (i := 5) (oi := _) (v := ?_) rfl (by kernel_rfl) (by kernel_rfl) (by kernel_rfl) (fun _ _ _ h => h) (by rfl) ?_ (by assumption) ?_
    rotate_left
    · intro w hSw; (try dsimp only at hSw); go_simp; try with_reducible rfl
    (try simp only [Act.put, List.setIfInBounds_toArray, List.set_cons_zero, List.set_cons_succ])
    refine reg_take (i := 6) (oi := _) (v := ?_) rfl (by kernel_rfl) (by kernel_rfl) (by kernel_rfl) (fun _ _ _ h => h) (by rfl) ?_ (by assumption) ?_
    rotate_left
    · intro w hSw; (try dsimp only at hSw); go_simp; try with_reducible rfl
    (try simp only [Act.put, List.setIfInBounds_toArray, List.set_cons_zero, List.set_cons_succ])
    refine reg_take (i := 7) (oi := _) (v := ?_) rfl (by kernel_rfl) (by kernel_rfl) (by kernel_rfl) (fun _ _ _ h => h) (by rfl) ?_ (by assumption) ?_
    rotate_left
    · intro w hSw; (try dsimp only at hSw); go_simp; try with_reducible rfl
    (try simp only [Act.put, List.setIfInBounds_toArray, List.set_cons_zero, List.set_cons_succ])
    refine reg_take (i := 8) (oi := _) (v := ?_) rfl (by kernel_rfl) (by kernel_rfl) (by kernel_rfl) (fun _ _ _ h => h) (by rfl) ?_ (by assumption) ?_
    rotate_left
    · intro w hSw; (try dsimp only at hSw); go_simp; try with_reducible rfl
    (try simp only [Act.put, List.setIfInBounds_toArray, List.set_cons_zero, List.set_cons_succ])
    refine reg_take (i := 9) (oi := _) (v := ?_) rfl (by kernel_rfl) (by kernel_rfl) (by kernel_rfl) (fun _ _ _ h => h) (by rfl) ?_ (by assumption) ?_
    rotate_left
    · intro w hSw; (try dsimp only at hSw); go_simp; try with_reducible rfl
    (try simp only [Act.put, List.setIfInBounds_toArray, List.set_cons_zero, List.set_cons_succ])
    refine reg_take (i := 10) (oi := _) (v := ?_) rfl (by kernel_rfl) (by kernel_rfl) (by kernel_rfl) (fun _ _ _ h => h) (by rfl) ?_ (by assumption) ?_
    rotate_left
    · intro w hSw; (try dsimp only at hSw); go_simp; try with_reducible rfl
    (try simp only [Act.put, List.setIfInBounds_toArray, List.set_cons_zero, List.set_cons_succ])
    refine reg_take (i := 11) (oi := _) (v := ?_) rfl (by kernel_rfl) (by kernel_rfl) (by kernel_rfl) (fun _ _ _ h => h) (by rfl) ?_ (by assumption) ?_
    rotate_left
    · intro w hSw; (try dsimp only at hSw); go_simp; try with_reducible rfl
    (try simp only [Act.put, List.setIfInBounds_toArray, List.set_cons_zero, List.set_cons_succ])
    refine reg_take (i := 12) (oi := _) (v := ?_) rfl (by kernel_rfl) (by kernel_rfl) (by kernel_rfl) (fun _ _ _ h => h) (by rfl) ?_ (by assumption) ?_
    rotate_left
    · intro w hSw; (try dsimp only at hSw); go_simp; try with_reducible rfl
    (try simp only [Act.put, List.setIfInBounds_toArray, List.set_cons_zero, List.set_cons_succ])
    refine reg_take (i := 13) (oi := _) (v := ?_) rfl (by kernel_rfl) (by kernel_rfl) (by kernel_rfl) (fun _ _ _ h => h) (by rfl) ?_ (by assumption) ?_
    rotate_left
    · intro w hSw; (try dsimp only at hSw); go_simp; try with_reducible rfl
    (try simp only [Act.put, List.setIfInBounds_toArray, List.set_cons_zero, List.set_cons_succ])
    refine reg_take (i := 15) (oi := _) (v := ?_) rfl (by kernel_rfl) (by kernel_rfl) (by kernel_rfl) (fun _ _ _ h => h) (by rfl) ?_ (by assumption) ?_
    rotate_left
    · intro w hSw; (try dsimp only at hSw); go_simp; try with_reducible rfl
    (try simp only [Act.put, List.setIfInBounds_toArray, List.set_cons_zero, List.set_cons_succ])
    refine reg_take (i := 16) (oi := _) (v := ?_) rfl (by kernel_rfl) (by kernel_rfl) (by kernel_rfl) (fun _ _ _ h => h) (by rfl) ?_ (by assumption) ?_
    rotate_left
    · intro w hSw; (try dsimp only at hSw); go_simp; try with_reducible rfl
    (try simp only [Act.put, List.setIfInBounds_toArray, List.set_cons_zero, List.set_cons_succ])
    refine reg_take (i := 20) (oi := _) (v := ?_) rfl (by kernel_rfl) (by kernel_rfl) (by kernel_rfl) (fun _ _ _ h => h) (by rfl) ?_ (by assumption) ?_
    rotate_left
    · intro w hSw; (try dsimp only at hSw); go_simp; try with_reducible rfl
    (try simp only [Act.put, List.setIfInBounds_toArray, List.set_cons_zero, List.set_cons_succ])
    refine reg_take (i := 21) (oi := _) (v := ?_) rfl (by kernel_rfl) (by kernel_rfl) (by kernel_rfl) (fun _ _ _ h => h) (by rfl) ?_ (by assumption) ?_
    rotate_left
    · intro w hSw; (try dsimp only at hSw); go_simp; try with_reducible rfl
    (try simp only [Act.put, List.setIfInBounds_toArray, List.set_cons_zero, List.set_cons_succ])
    refine wpAnyH_ready (rs := [14]) (by kernel_rfl) (by simp) ?_
    refine reg_each (o := _) rfl (fun K hK => ?_) ?_
    · skip
      go_simp
      refine (HB.out _).mono ?_
      rintro e w2 ⟨rfl, rfl⟩
      go_wp2_with (fail)
      refine hK.out _ _ ?_ (fun hHeld2 => ?_)
      · exact keep10 hHeld.1
      clear hK K hHeld
      have hHeld := hHeld2
      clear hHeld2
      (try simp only [Act.put, List.setIfInBounds_toArray, List.set_cons_zero, List.set_cons_succ])
      refine reg_take (i := 17) (oi := _) (v := ?_) rfl (by kernel_rfl) (by kernel_rfl) (by kernel_rfl) (fun _ _ _ h => h) (by rfl) ?_ (by assumption) ?_
      rotate_left
      · intro w hSw; (try dsimp only at hSw); go_simp; try with_reducible rfl
      (try simp only [Act.put, List.setIfInBounds_toArray, List.set_cons_zero, List.set_cons_succ])
      refine reg_take (i := 18) (oi := _) (v := ?_) rfl (by kernel_rfl) (by kernel_rfl) (by kernel_rfl) (fun _ _ _ h => h) (by rfl) ?_ (by assumption) ?_
      rotate_left
      · intro w hSw; (try dsimp only at hSw); go_simp; try with_reducible rfl
      (try simp only [Act.put, List.setIfInBounds_toArray, List.set_cons_zero, List.set_cons_succ])
      refine wpAnyH_ready (rs := [19]) (by kernel_rfl) (by simp) ?_
      refine reg_each (o := _) rfl (fun K hK => ?_) ?_
      · skip
        go_simp
        refine hK.out _ _ ?_ (fun hHeld2 => ?_)
        · first | exact keep10 (Blk.drew (Blk.alloc hb _)) | exact keep10 (Blk.alloc (Blk.drew hb) _)
        clear hK K hHeld
        have hHeld := hHeld2
        clear hHeld2
        (try simp only [Act.put, List.setIfInBounds_toArray, List.set_cons_zero, List.set_cons_succ])
        refine reg_take (i := 22) (oi := _) (v := ?_) rfl (by kernel_rfl) (by kernel_rfl) (by kernel_rfl) (fun _ _ _ h => h) (by rfl) ?_ (by assumption) ?_
        rotate_left
        · intro w hSw; (try dsimp only at hSw); go_simp; try with_reducible rfl
        (try simp only [Act.put, List.setIfInBounds_toArray, List.set_cons_zero, List.set_cons_succ])
        refine wpAnyH_ready (rs := [23]) (by kernel_rfl) (by simp) ?_
        refine reg_each (o := _) rfl (fun K hK => ?_) ?_
        · skip
          go_simp
          refine hK.out _ _ ?_ (fun hHeld2 => ?_)
          · exact hHeld
          clear hK K hHeld
          have hHeld := hHeld2
          clear hHeld2
          (try simp only [Act.put, List.setIfInBounds_toArray, List.set_cons_zero, List.set_cons_succ])
          refine reg_take (i := 24) (oi := _) (v := ?_) rfl (by kernel_rfl) (by kernel_rfl) (by kernel_rfl) (fun _ _ _ h => h) (by rfl) ?_ (by assumption) ?_
          rotate_left
          · intro w hSw; (try dsimp only at hSw); go_simp; try with_reducible rfl
          (try simp only [Act.put, List.setIfInBounds_toArray, List.set_cons_zero, List.set_cons_succ])
          refine wpAnyH_done (by kernel_rfl) ?_ _
          refine NoPanic.normal ?_
          go_wp2_with (fail)
          go_meet
          exact ⟨rfl, Blk.drew (Blk.alloc hb _), (W6.out.alloc _).drew, below_drewN (B6.alloc B6.size _) 1⟩
        exact AllReadyH.nil
      exact AllReadyH.nil
    exact AllReadyH.nil
  case rest =>
    obtain ⟨rfl, b7, w7, B7⟩ := hcut
    clear hb b6 W6 B6
    have A2 := fun w => admit_walk ⟨4, s, en, ti, bl, dn, fl, ac, op, 246⟩ w
    rw [adm_3] at A2
    unfold Cs.cells at A2
    dsimp only at A2
    have HA := Lib.hid A2; clear A2
    have W7 := Lib.hid w7; clear w7
    obtain ⟨⟨c0, c1, c2, c3, c4, c5, c6, c7, c8, c9⟩, _, zl⟩ := cells10 b7
    clear b7
    cases bl
    · simp only [Bool.false_eq_true, if_false] at HA
      go_wp2_with (fail)
      refine (HA.out _).mono ?_
      rintro e w8 ⟨rfl, hb8⟩
      go_wp2_with (fail)
      refine (sure_walk _ (W7.out.below hb8)).mono ?_
      rintro e w9 ⟨rfl, hb9⟩
      go_wp2
      go_ret
      exact ⟨rfl, below_trans (below_trans B7 hb8) hb9⟩
    · simp only [if_true] at HA
      go_wp2_with (fail)
      refine (HA.out _).mono ?_
      rintro e w8 ⟨rfl, hb8⟩
      go_wp2_with (fail)
      refine (sure_walk _ (W7.out.below hb8)).mono ?_
      rintro e w9 ⟨rfl, hb9⟩
      go_wp2
      go_ret
      exact ⟨rfl, below_trans (below_trans B7 hb8) hb9⟩
set_option maxRecDepth 100000 in
set_option maxHeartbeats 8000000 in
theorem forced_4 (s : Int) (en ti bl dn fl ac : Bool) (k0 op fo k : Int) (w : World) (hw : WordsOk w) (hc : 1 + (IntKind.u64.wrap k).tmod 7 = 4) :
    Calls Tryd.prog 3 #[.agg #[.int .i64 k0, .int .i64 s, .bool en, .bool ti, .bool bl, .bool dn, .bool fl, .bool ac, .int .i64 op, .int .i64 fo], .int .i64 k] w fun e w' => e = .returned (.bool true) ∧ Below w.heap.size w w' := by
  obtain ⟨u1, u2⟩ := u64m_bd k 7 (by decide)
  have HB := Lib.hid (bit_walk 4 s)
  go_enter Tryd.func3, Tryd.ntmps3
  have q5 := Blk.new1 w (.cells #[.int .i64 k0, .int .i64 s, .bool en, .bool ti, .bool bl, .bool dn, .bool fl, .bool ac, .int .i64 op, .int .i64 fo] 23) 24 #[.int .i64 4, .int .i64 s, .bool en, .bool ti, .bool bl, .bool dn, .bool fl, .bool ac, .int .i64 op, .int .i64 254]
  have w5 := (hw.alloc (.cells #[.int .i64 k0, .int .i64 s, .bool en, .bool ti, .bool bl, .bool dn, .bool fl, .bool ac, .int .i64 op, .int .i64 fo] 23)).alloc (.cells #[.int .i64 4, .int .i64 s, .bool en, .bool ti, .bool bl, .bool dn, .bool fl, .bool ac, .int .i64 op, .int .i64 254] 24)
  have B0 := below_al (below_al (Below.refl w.heap.size w) (.cells #[.int .i64 k0, .int .i64 s, .bool en, .bool ti, .bool bl, .bool dn, .bool fl, .bool ac, .int .i64 op, .int .i64 fo] 23)) (.cells #[.int .i64 4, .int .i64 s, .bool en, .bool ti, .bool bl, .bool dn, .bool fl, .bool ac, .int .i64 op, .int .i64 254] 24)
  have Q5 := Lib.hid q5; have W5 := Lib.hid w5; clear q5 w5 hw
  go_wp2_with (fail)
  refine (admit_walk ⟨4, s, en, ti, bl, dn, fl, ac, op, 254⟩ _).mono ?_
  rintro e w1 ⟨rfl, hb1⟩
  rw [adm_254]
  have b5 := Q5.out.below hb1
  have hw1 := W5.out.below hb1
  have B1 := below_trans B0 hb1
  have hgl : w.heap.size ≤ w.heap.size + 1 := by omega
  obtain ⟨⟨c0, c1, c2, c3, c4, c5, c6, c7, c8, c9⟩, ⟨f0, f1, f2, f3, f4, f5, f6, f7, f8, f9⟩, zl⟩ := cells10 b5
  have B5 := Lib.hid b5; have HW := Lib.hid hw1
  clear b5 hw1 Q5 W5 B0 hb1
  go_upto_region 6 with (fail)
  generalize hn : 1 + (IntKind.u64.wrap k).tmod 7 = n at *
  obtain rfl : n = 4 := hc
  have hand : bits .andNot .i64 254 16 = 238 := by decide
  go_upto_region 7 with (fail)
  have hwn : IntKind.i64.wrap 3 = 3 := by decide
  have b6 : Blk (w1.setCell ⟨w.heap.size + 1, 9, none⟩ (.int .i64 238)) (w.heap.size + 1) 24 #[.int .i64 4, .int .i64 s, .bool en, .bool ti, .bool bl, .bool dn, .bool fl, .bool ac, .int .i64 op, .int .i64 238] := B5.out.put 9 _ rfl
  have B6 : Below w.heap.size w (w1.setCell ⟨w.heap.size + 1, 9, none⟩ (.int .i64 238)) := B1.setCell (by simp) _
  have w6 : WordsOk (w1.setCell ⟨w.heap.size + 1, 9, none⟩ (.int .i64 238)) := HW.out.far (by simp) _
  clear hand c0 c1 c2 c3 c4 c5 c6 c7 c8 c9 f0 f1 f2 f3 f4 f5 f6 f7 f8 f9 zl B1 B5 HW
  generalize w1.setCell ⟨w.heap.size + 1, 9, none⟩ (.int .i64 238) = W at *
  generalize hgg : w.heap.size + 1 = g at *
  have hb := b6
  have W6 := Lib.hid w6; clear w6
  go_cut [7] (fun s7 wx => s7 = .bool (dn) ∧ Blk wx g 24 #[.int .i64 4, .int .i64 s, .bool en, .bool ti, .bool bl, .bool dn, .bool fl, .bool ac, .int .i64 op, .int .i64 238] ∧ WordsOk wx ∧ Below w.heap.size w wx)
  case first =>
    refine wp_region_noPanic ?_
    refine wp_region_held_drew (S := (fun w' => Blk w' g 24 #[.int .i64 4, .int .i64 s, .bool en, .bool ti, .bool bl, .bool dn, .bool fl, .bool ac, .int .i64 op, .int .i64 238] ∧ g < w'.heap.size ∧ w'.cell? ⟨g, 0, none⟩ = some (.int .i64 4) ∧ w'.cell? ⟨g, 1, none⟩ = some (.int .i64 s) ∧ w'.cell? ⟨g, 2, none⟩ = some (.bool en) ∧ w'.cell? ⟨g, 3, none⟩ = some (.bool ti) ∧ w'.cell? ⟨g, 4, none⟩ = some (.bool bl) ∧ w'.cell? ⟨g, 5, none⟩ = some (.bool dn) ∧ w'.cell? ⟨g, 6, none⟩ = some (.bool fl) ∧ w'.cell? ⟨g, 7, none⟩ = some (.bool ac) ∧ w'.cell? ⟨g, 8, none⟩ = some (.int .i64 op) ∧ w'.cell? ⟨g, 9, none⟩ = some (.int .i64 238))) (by kernel_rfl) ?_ (fun hHeld => ?_)
    · exact keep10 (Blk.drew hb)
    refine reg_take (i := 0) (oi := _) (v := ?_) rfl (by kernel_rfl) (by kernel_rfl) (by kernel_rfl) (fun _ _ _ h => h) (by rfl) ?_ (by assumption) ?_
    rotate_left
    · intro w hSw; (try dsimp only at hSw); go_simp; try with_reducible rfl
    (try simp only [Act.put, List.setIfInBounds_toArray, List.set_cons_zero, List.set_cons_succ])
    refine reg_take (i := 1) (oi := _) (v := ?_) rfl (by kernel_rfl) (by kernel_rfl) (by kernel_rfl) (fun _ _ _ h => h) (by rfl) ?_ (by assumption) ?_
    rotate_left
    · intro w hSw; (try dsimp only at hSw); go_simp; try with_reducible rfl
    (try simp only [Act.put, List.setIfInBounds_toArray, List.set_cons_zero, List.set_cons_succ])
    refine reg_take (i := 2) (oi := _) (v := ?_) rfl (by kernel_rfl) (by kernel_rfl) (by kernel_rfl) (fun _ _ _ h => h) (by rfl) ?_ (by assumption) ?_
    rotate_left
    · intro w hSw; (try dsimp only at hSw); go_simp; try with_reducible rfl
    (try simp only [Act.put, List.setIfInBounds_toArray, List.set_cons_zero, List.set_cons_succ])
    refine reg_take (i := 3) (oi := _) (v := ?_) rfl (by kernel_rfl) (by kernel_rfl) (by kernel_rfl) (fun _ _ _ h => h) (by rfl) ?_ (by assumption) ?_
    rotate_left
    · intro w hSw; (try dsimp only at hSw); go_simp; try with_reducible rfl
    (try simp only [Act.put, List.setIfInBounds_toArray, List.set_cons_zero, List.set_cons_succ])
    refine reg_take (i := 4) (oi := _) (v := ?_) rfl (by kernel_rfl) (by kernel_rfl) (by kernel_rfl) (fun _ _ _ h => h) (by rfl) ?_ (by assumption) ?_
    rotate_left
    · intro w hSw; (try dsimp only at hSw); go_simp; try with_reducible rfl
    (try simp only [Act.put, List.setIfInBounds_toArray, List.set_cons_zero, List.set_cons_succ])
    refine reg_take (i := 5) (oi := _) (v := ?_) rfl (by kernel_rfl) (by kernel_rfl) (by kernel_rfl) (fun _ _ _ h => h) (by rfl) ?_ (by assumption) ?_
    rotate_left
    · intro w hSw; (try dsimp only at hSw); go_simp; try with_reducible rfl
    (try simp only [Act.put, List.setIfInBounds_toArray, List.set_cons_zero, List.set_cons_succ])
    refine reg_take (i := 6) (oi := _) (v := ?_) rfl (by kernel_rfl) (by kernel_rfl) (by kernel_rfl) (fun _ _ _ h => h) (by rfl) ?_ (by assumption) ?_
    rotate_left
    · intro w hSw; (try dsimp only at hSw); go_simp; try with_reducible rfl
    (try simp only [Act.put, List.setIfInBounds_toArray, List.set_cons_zero, List.set_cons_succ])
    refine reg_take (i := 7) (oi := _) (v := ?_) rfl (by kernel_rfl) (by kernel_rfl) (by kernel_rfl) (fun _ _ _ h => h) (by rfl) ?_ (by assumption) ?_
    rotate_left
    · intro w hSw; (try dsimp only at hSw); go_simp; try with_reducible rfl
    (try simp only [Act.put, List.setIfInBounds_toArray, List.set_cons_zero, List.set_cons_succ])
    refine reg_take (i := 8) (oi := _) (v := ?_) rfl (by kernel_rfl) (by kernel_rfl) (by kernel_rfl) (fun _ _ _ h => h) (by rfl) ?_ (by assumption) ?_
    rotate_left
    · intro w hSw; (try dsimp only at hSw); go_simp; try with_reducible rfl
    (try simp only [Act.put, List.setIfInBounds_toArray, List.set_cons_zero, List.set_cons_succ])
    refine reg_take (i := 9) (oi := _) (v := ?_) rfl (by kernel_rfl) (by kernel_rfl) (by kernel_rfl) (fun _ _ _ h => h) (by rfl) ?_ (by assumption) ?_
    rotate_left
    · intro w hSw; (try dsimp only at hSw); go_simp; try with_reducible rfl
    (try simp only [Act.put, List.setIfInBounds_toArray, List.set_cons_zero, List.set_cons_succ])
    refine reg_take (i := 10) (oi := _) (v := ?_) rfl (by kernel_rfl) (by kernel_rfl) (by kernel_rfl) (fun _ _ _ h => h) (by rfl) ?_ (by assumption) ?_
    rotate_left
    · intro w hSw; (try dsimp only at hSw); go_simp; try with_reducible rfl
    (try simp only [Act.put, List.setIfInBounds_toArray, List.set_cons_zero, List.set_cons_succ])
    refine reg_take (i := 11) (oi := _) (v := ?_) rfl (by kernel_rfl) (by kernel_rfl) (by kernel_rfl) (fun _ _ _ h => h) (by rfl) ?_ (by assumption) ?_
    rotate_left
    · intro w hSw; (try dsimp only at hSw); go_simp; try with_reducible rfl
    (try simp only [Act.put, List.setIfInBounds_toArray, List.set_cons_zero, List.set_cons_succ])
    refine reg_take (i := 12) (oi := _) (v := ?_) rfl (by kernel_rfl) (by kernel_rfl) (by kernel_rfl) (fun _ _ _ h => h) (by rfl) ?_ (by assumption) ?_
    rotate_left
    · intro w hSw; (try dsimp only at hSw); go_simp; try with_reducible rfl
    (try simp only [Act.put, List.setIfInBounds_toArray, List.set_cons_zero, List.set_cons_succ])
    refine reg_take (i := 13) (oi := _) (v := ?_) rfl (by kernel_rfl) (by kernel_rfl) (by kernel_rfl) (fun _ _ _ h => h) (by rfl) ?_ (by assumption) ?_
    rotate_left
    · intro w hSw; (try dsimp only at hSw); go_simp; try with_reducible rfl
    (try simp only [Act.put, List.setIfInBounds_toArray, List.set_cons_zero, List.set_cons_succ])
    refine reg_take (i := 15) (oi := _) (v := ?_) rfl (by kernel_rfl) (by kernel_rfl) (by kernel_rfl) (fun _ _ _ h => h) (by rfl) ?_ (by assumption) ?_
    rotate_left
    · intro w hSw; (try dsimp only at hSw); go_simp; try with_reducible rfl
    (try simp only [Act.put, List.setIfInBounds_toArray, List.set_cons_zero, List.set_cons_succ])
    refine reg_take (i := 16) (oi := _) (v := ?_) rfl (by kernel_rfl) (by kernel_rfl) (by kernel_rfl) (fun _ _ _ h => h) (by rfl) ?_ (by assumption) ?_
    rotate_left
    · intro w hSw; (try dsimp only at hSw); go_simp; try with_reducible rfl
    (try simp only [Act.put, List.setIfInBounds_toArray, List.set_cons_zero, List.set_cons_succ])
    refine reg_take (i := 20) (oi := _) (v := ?_) rfl (by kernel_rfl) (by kernel_rfl) (by kernel_rfl) (fun _ _ _ h => h) (by rfl) ?_ (by assumption) ?_
    rotate_left
    · intro w hSw; (try dsimp only at hSw); go_simp; try with_reducible rfl
    (try simp only [Act.put, List.setIfInBounds_toArray, List.set_cons_zero, List.set_cons_succ])
    refine reg_take (i := 21) (oi := _) (v := ?_) rfl (by kernel_rfl) (by kernel_rfl) (by kernel_rfl) (fun _ _ _ h => h) (by rfl) ?_ (by assumption) ?_
    rotate_left
    · intro w hSw; (try dsimp only at hSw); go_simp; try with_reducible rfl
    (try simp only [Act.put, List.setIfInBounds_toArray, List.set_cons_zero, List.set_cons_succ])
    refine wpAnyH_ready (rs := [14]) (by kernel_rfl) (by simp) ?_
    refine reg_each (o := _) rfl (fun K hK => ?_) ?_
    · skip
      go_simp
      refine (HB.out _).mono ?_
      rintro e w2 ⟨rfl, rfl⟩
      go_wp2_with (fail)
      refine hK.out _ _ ?_ (fun hHeld2 => ?_)
      · exact keep10 hHeld.1
      clear hK K hHeld
      have hHeld := hHeld2
      clear hHeld2
      (try simp only [Act.put, List.setIfInBounds_toArray, List.set_cons_zero, List.set_cons_succ])
      refine reg_take (i := 17) (oi := _) (v := ?_) rfl (by kernel_rfl) (by kernel_rfl) (by kernel_rfl) (fun _ _ _ h => h) (by rfl) ?_ (by assumption) ?_
      rotate_left
      · intro w hSw; (try dsimp only at hSw); go_simp; try with_reducible rfl
      (try simp only [Act.put, List.setIfInBounds_toArray, List.set_cons_zero, List.set_cons_succ])
      refine reg_take (i := 18) (oi := _) (v := ?_) rfl (by kernel_rfl) (by kernel_rfl) (by kernel_rfl) (fun _ _ _ h => h) (by rfl) ?_ (by assumption) ?_
      rotate_left
      · intro w hSw; (try dsimp only at hSw); go_simp; try with_reducible rfl
      (try simp only [Act.put, List.setIfInBounds_toArray, List.set_cons_zero, List.set_cons_succ])
      refine wpAnyH_ready (rs := [19]) (by kernel_rfl) (by simp) ?_
      refine reg_each (o := _) rfl (fun K hK => ?_) ?_
      · skip
        go_simp
        refine hK.out _ _ ?_ (fun hHeld2 => ?_)
        · first | exact keep10 (Blk.drew (Blk.alloc hb _)) | exact keep10 (Blk.alloc (Blk.drew hb) _)
        clear hK K hHeld
        have hHeld := hHeld2
        clear hHeld2
        (try simp only [Act.put, List.setIfInBounds_toArray, List.set_cons_zero, List.set_cons_succ])
        refine reg_take (i := 22) (oi := _) (v := ?_) rfl (by kernel_rfl) (by kernel_rfl) (by kernel_rfl) (fun _ _ _ h => h) (by rfl) ?_ (by assumption) ?_
        rotate_left
        · intro w hSw; (try dsimp only at hSw); go_simp; try with_reducible rfl
        (try simp only [Act.put, List.setIfInBounds_toArray, List.set_cons_zero, List.set_cons_succ])
        refine wpAnyH_ready (rs := [23]) (by kernel_rfl) (by simp) ?_
        refine reg_each (o := _) rfl (fun K hK => ?_) ?_
        · skip
          go_simp
          refine hK.out _ _ ?_ (fun hHeld2 => ?_)
          · exact hHeld
          clear hK K hHeld
          have hHeld := hHeld2
          clear hHeld2
          (try simp only [Act.put, List.setIfInBounds_toArray, List.set_cons_zero, List.set_cons_succ])
          refine reg_take (i := 24) (oi := _) (v := ?_) rfl (by kernel_rfl) (by kernel_rfl) (by kernel_rfl) (fun _ _ _ h => h) (by rfl) ?_ (by assumption) ?_
          rotate_left
          · intro w hSw; (try dsimp only at hSw); go_simp; try with_reducible rfl
          (try simp only [Act.put, List.setIfInBounds_toArray, List.set_cons_zero, List.set_cons_succ])
          refine wpAnyH_done (by kernel_rfl) ?_ _
          refine NoPanic.normal ?_
          go_wp2_with (fail)
          go_meet
          exact ⟨rfl, Blk.drew (Blk.alloc hb _), (W6.out.alloc _).drew, below_drewN (B6.alloc B6.size _) 1⟩
        exact AllReadyH.nil
      exact AllReadyH.nil
    exact AllReadyH.nil
  case rest =>
    obtain ⟨rfl, b7, w7, B7⟩ := hcut
    clear hb b6 W6 B6
    have A2 := fun w => admit_walk ⟨4, s, en, ti, bl, dn, fl, ac, op, 238⟩ w
    rw [adm_4] at A2
    unfold Cs.cells at A2
    dsimp only at A2
    have HA := Lib.hid A2; clear A2
    have W7 := Lib.hid w7; clear w7
    obtain ⟨⟨c0, c1, c2, c3, c4, c5, c6, c7, c8, c9⟩, _, zl⟩ := cells10 b7
    clear b7
    cases dn
    · simp only [Bool.false_eq_true, if_false] at HA
      go_wp2_with (fail)
      refine (HA.out _).mono ?_
      rintro e w8 ⟨rfl, hb8⟩
      go_wp2_with (fail)
      refine (sure_walk _ (W7.out.below hb8)).mono ?_
      rintro e w9 ⟨rfl, hb9⟩
      go_wp2
      go_ret
      exact ⟨rfl, below_trans (below_trans B7 hb8) hb9⟩
    · simp only [if_true] at HA
      go_wp2_with (fail)
      refine (HA.out _).mono ?_
      rintro e w8 ⟨rfl, hb8⟩
      go_wp2_with (fail)
      refine (sure_walk _ (W7.out.below hb8)).mono ?_
      rintro e w9 ⟨rfl, hb9⟩
      go_wp2
      go_ret
      exact ⟨rfl, below_trans (below_trans B7 hb8) hb9⟩
set_option maxRecDepth 100000 in
set_option maxHeartbeats 8000000 in
theorem forced_5 (s : Int) (en ti bl dn fl ac : Bool) (k0 op fo k : Int) (w : World) (hw : WordsOk w) (hc : 1 + (IntKind.u64.wrap k).tmod 7 = 5) :
    Calls Tryd.prog 3 #[.agg #[.int .i64 k0, .int .i64 s, .bool en, .bool ti, .bool bl, .bool dn, .bool fl, .bool ac, .int .i64 op, .int .i64 fo], .int .i64 k] w fun e w' => e = .returned (.bool true) ∧ Below w.heap.size w w' := by
  obtain ⟨u1, u2⟩ := u64m_bd k 7 (by decide)
  have HB := Lib.hid (bit_walk 4 s)
  go_enter Tryd.func3, Tryd.ntmps3
  have q5 := Blk.new1 w (.cells #[.int .i64 k0, .int .i64 s, .bool en, .bool ti, .bool bl, .bool dn, .bool fl, .bool ac, .int .i64 op, .int .i64 fo] 23) 24 #[.int .i64 4, .int .i64 s, .bool en, .bool ti, .bool bl, .bool dn, .bool fl, .bool ac, .int .i64 op, .int .i64 254]
  have w5 := (hw.alloc (.cells #[.int .i64 k0, .int .i64 s, .bool en, .bool ti, .bool bl, .bool dn, .bool fl, .bool ac, .int .i64 op, .int .i64 fo] 23)).alloc (.cells #[.int .i64 4, .int .i64 s, .bool en, .bool ti, .bool bl, .bool dn, .bool fl, .bool ac, .int .i64 op, .int .i64 254] 24)
  have B0 := below_al (below_al (Below.refl w.heap.size w) (.cells #[.int .i64 k0, .int .i64 s, .bool en, .bool ti, .bool bl, .bool dn, .bool fl, .bool ac, .int .i64 op, .int .i64 fo] 23)) (.cells #[.int .i64 4, .int .i64 s, .bool en, .bool ti, .bool bl, .bool dn, .bool fl, .bool ac, .int .i64 op, .int .i64 254] 24)
  have Q5 := Lib.hid q5; have W5 := Lib.hid w5; clear q5 w5 hw
  go_wp2_with (fail)
  refine (admit_walk ⟨4, s, en, ti, bl, dn, fl, ac, op, 254⟩ _).mono ?_
  rintro e w1 ⟨rfl, hb1⟩
  rw [adm_254]
  have b5 := Q5.out.below hb1
  have hw1 := W5.out.below hb1
  have B1 := below_trans B0 hb1
  have hgl : w.heap.size ≤ w.heap.size + 1 := by omega
  obtain ⟨⟨c0, c1, c2, c3, c4, c5, c6, c7, c8, c9⟩, ⟨f0, f1, f2, f3, f4, f5, f6, f7, f8, f9⟩, zl⟩ := cells10 b5
  have B5 := Lib.hid b5; have HW := Lib.hid hw1
  clear b5 hw1 Q5 W5 B0 hb1
  go_upto_region 6 with (fail)
  generalize hn : 1 + (IntKind.u64.wrap k).tmod 7 = n at *
  obtain rfl : n = 5 := hc
  have hand : bits .andNot .i64 254 32 = 222 := by decide
  go_upto_region 7 with (fail)
  have hwn : IntKind.i64.wrap 4 = 4 := by decide
  have b6 : Blk (w1.setCell ⟨w.heap.size + 1, 9, none⟩ (.int .i64 222)) (w.heap.size + 1) 24 #[.int .i64 4, .int .i64 s, .bool en, .bool ti, .bool bl, .bool dn, .bool fl, .bool ac, .int .i64 op, .int .i64 222] := B5.out.put 9 _ rfl
  have B6 : Below w.heap.size w (w1.setCell ⟨w.heap.size + 1, 9, none⟩ (.int .i64 222)) := B1.setCell (by simp) _
  have w6 : WordsOk (w1.setCell ⟨w.heap.size + 1, 9, none⟩ (.int .i64 222)) := HW.out.far (by simp) _
  clear hand c0 c1 c2 c3 c4 c5 c6 c7 c8 c9 f0 f1 f2 f3 f4 f5 f6 f7 f8 f9 zl B1 B5 HW
  generalize w1.setCell ⟨w.heap.size + 1, 9, none⟩ (.int .i64 222) = W at *
  generalize hgg : w.heap.size + 1 = g at *
  have hb := b6
  have W6 := Lib.hid w6; clear w6
  go_cut [7] (fun s7 wx => s7 = .bool (false) ∧ Blk wx g 24 #[.int .i64 4, .int .i64 s, .bool en, .bool ti, .bool bl, .bool dn, .bool fl, .bool ac, .int .i64 op, .int .i64 222] ∧ WordsOk wx ∧ Below w.heap.size w wx)
  case first =>
    refine wp_region_noPanic ?_
    refine wp_region_held_drew (S := (fun w' => Blk w' g 24 #[.int .i64 4, .int .i64 s, .bool en, .bool ti, .bool bl, .bool dn, .bool fl, .bool ac, .int .i64 op, .int .i64 222] ∧ g < w'.heap.size ∧ w'.cell? ⟨g, 0, none⟩ = some (.int .i64 4) ∧ w'.cell? ⟨g, 1, none⟩ = some (.int .i64 s) ∧ w'.cell? ⟨g, 2, none⟩ = some (.bool en) ∧ w'.cell? ⟨g, 3, none⟩ = some (.bool ti) ∧ w'.cell? ⟨g, 4, none⟩ = some (.bool bl) ∧ w'.cell? ⟨g, 5, none⟩ = some (.bool dn) ∧ w'.cell? ⟨g, 6, none⟩ = some (.bool fl) ∧ w'.cell? ⟨g, 7, none⟩ = some (.bool ac) ∧ w'.cell? ⟨g, 8, none⟩ = some (.int .i64 op) ∧ w'.cell? ⟨g, 9, none⟩ = some (.int .i64 222))) (by kernel_rfl) ?_ (fun hHeld => ?_)
    · exact keep10 (Blk.drew hb)
    refine reg_take (i := 0) (oi := _) (v := ?_) rfl (by kernel_rfl) (by kernel_rfl) (by kernel_rfl) (fun _ _ _ h => h) (by rfl) ?_ (by assumption) ?_
    rotate_left
    · intro w hSw; (try dsimp only at hSw); go_simp; try with_reducible rfl
    (try simp only [Act.put, List.setIfInBounds_toArray, List.set_cons_zero, List.set_cons_succ])
    refine reg_take (i := 1) (oi := _) (v := ?_) rfl (by kernel_rfl) (by kernel_rfl) (by kernel_rfl) (fun _ _ _ h => h) (by rfl) ?_ (by assumption) ?_
    rotate_left
    · intro w hSw; (try dsimp only at hSw); go_simp; try with_reducible rfl
    (try simp only [Act.put, List.setIfInBounds_toArray, List.set_cons_zero, List.set_cons_succ])
    refine reg_take (i := 2) (oi := _) (v := ?_) rfl (by kernel_rfl) (by kernel_rfl) (by kernel_rfl) (fun _ _ _ h => h) (by rfl) ?_ (by assumption) ?_
    rotate_left
    · intro w hSw; (try dsimp only at hSw); go_simp; try with_reducible rfl
    (try simp only [Act.put, List.setIfInBounds_toArray, List.set_cons_zero, List.set_cons_succ])
    refine reg_take (i := 3) (oi := _) (v := ?_) rfl (by kernel_rfl) (by kernel_rfl) (by kernel_rfl) (fun _ _ _ h => h) (by rfl) ?_ (by assumption) ?_
    rotate_left
    · intro w hSw; (try dsimp only at hSw); go_simp; try with_reducible rfl
    (try simp only [Act.put, List.setIfInBounds_toArray, List.set_cons_zero, List.set_cons_succ])
    refine reg_take (i := 4) (oi := _) (v := ?_) rfl (by kernel_rfl) (by kernel_rfl) (by kernel_rfl) (fun _ _ _ h => h) (by rfl) ?_ (by assumption) ?_
    rotate_left
    · intro w hSw; (try dsimp only at hSw); go_simp; try with_reducible rfl
    (try simp only [Act.put, List.setIfInBounds_toArray, List.set_cons_zero, List.set_cons_succ])
    refine reg_take (i := 5) (oi := _) (v := ?_) rfl (by kernel_rfl) (by kernel_rfl) (by kernel_rfl) (fun _ _ _ h => h) (by rfl) ?_ (by assumption) ?_
    rotate_left
    · intro w hSw; (try dsimp only at hSw); go_simp; try with_reducible rfl
    (try simp only [Act.put, List.setIfInBounds_toArray, List.set_cons_zero, List.set_cons_succ])
    refine reg_take (i := 6) (oi := _) (v := ?_) rfl (by kernel_rfl) (by kernel_rfl) (by kernel_rfl) (fun _ _ _ h => h) (by rfl) ?_ (by assumption) ?_
    rotate_left
    · intro w hSw; (try dsimp only at hSw); go_simp; try with_reducible rfl
    (try simp only [Act.put, List.setIfInBounds_toArray, List.set_cons_zero, List.set_cons_succ])
    refine reg_take (i := 7) (oi := _) (v := ?_) rfl (by kernel_rfl) (by kernel_rfl) (by kernel_rfl) (fun _ _ _ h => h) (by rfl) ?_ (by assumption) ?_
    rotate_left
    · intro w hSw; (try dsimp only at hSw); go_simp; try with_reducible rfl
    (try simp only [Act.put, List.setIfInBounds_toArray, List.set_cons_zero, List.set_cons_succ])
    refine reg_take (i := 8) (oi := _) (v := ?_) rfl (by kernel_rfl) (by kernel_rfl) (by kernel_rfl) (fun _ _ _ h => h) (by rfl) ?_ (by assumption) ?_
    rotate_left
    · intro w hSw; (try dsimp only at hSw); go_simp; try with_reducible rfl
    (try simp only [Act.put, List.setIfInBounds_toArray, List.set_cons_zero, List.set_cons_succ])
    refine reg_take (i := 9) (oi := _) (v := ?_) rfl (by kernel_rfl) (by kernel_rfl) (by kernel_rfl) (fun _ _ _ h => h) (by rfl) ?_ (by assumption) ?_
    rotate_left
    · intro w hSw; (try dsimp only at hSw); go_simp; try with_reducible rfl
    (try simp only [Act.put, List.setIfInBounds_toArray, List.set_cons_zero, List.set_cons_succ])
    refine reg_take (i := 10) (oi := _) (v := ?_) rfl (by kernel_rfl) (by kernel_rfl) (by kernel_rfl) (fun _ _ _ h => h) (by rfl) ?_ (by assumption) ?_
    rotate_left
    · intro w hSw; (try dsimp only at hSw); go_simp; try with_reducible rfl
    (try simp only [Act.put, List.setIfInBounds_toArray, List.set_cons_zero, List.set_cons_succ])
    refine reg_take (i := 11) (oi := _) (v := ?_) rfl (by kernel_rfl) (by kernel_rfl) (by kernel_rfl) (fun _ _ _ h => h) (by rfl) ?_ (by assumption) ?_
    rotate_left
    · intro w hSw; (try dsimp only at hSw); go_simp; try with_reducible rfl
    (try simp only [Act.put, List.setIfInBounds_toArray, List.set_cons_zero, List.set_cons_succ])
    refine reg_take (i := 12) (oi := _) (v := ?_) rfl (by kernel_rfl) (by kernel_rfl) (by kernel_rfl) (fun _ _ _ h => h) (by rfl) ?_ (by assumption) ?_
    rotate_left
    · intro w hSw; (try dsimp only at hSw); go_simp; try with_reducible rfl
    (try simp only [Act.put, List.setIfInBounds_toArray, List.set_cons_zero, List.set_cons_succ])
    refine reg_take (i := 13) (oi := _) (v := ?_) rfl (by kernel_rfl) (by kernel_rfl) (by kernel_rfl) (fun _ _ _ h => h) (by rfl) ?_ (by assumption) ?_
    rotate_left
    · intro w hSw; (try dsimp only at hSw); go_simp; try with_reducible rfl
    (try simp only [Act.put, List.setIfInBounds_toArray, List.set_cons_zero, List.set_cons_succ])
    refine reg_take (i := 15) (oi := _) (v := ?_) rfl (by kernel_rfl) (by kernel_rfl) (by kernel_rfl) (fun _ _ _ h => h) (by rfl) ?_ (by assumption) ?_
    rotate_left
    · intro w hSw; (try dsimp only at hSw); go_simp; try with_reducible rfl
    (try simp only [Act.put, List.setIfInBounds_toArray, List.set_cons_zero, List.set_cons_succ])
    refine reg_take (i := 16) (oi := _) (v := ?_) rfl (by kernel_rfl) (by kernel_rfl) (by kernel_rfl) (fun _ _ _ h => h) (by rfl) ?_ (by assumption) ?_
    rotate_left
    · intro w hSw; (try dsimp only at hSw); go_simp; try with_reducible rfl
    (try simp only [Act.put, List.setIfInBounds_toArray, List.set_cons_zero, List.set_cons_succ])
    refine reg_take (i := 20) (oi := _) (v := ?_) rfl (by kernel_rfl) (by kernel_rfl) (by kernel_rfl) (fun _ _ _ h => h) (by rfl) ?_ (by assumption) ?_
    rotate_left
    · intro w hSw; (try dsimp only at hSw); go_simp; try with_reducible rfl
    (try simp only [Act.put, List.setIfInBounds_toArray, List.set_cons_zero, List.set_cons_succ])
    refine reg_take (i := 21) (oi := _) (v := ?_) rfl (by kernel_rfl) (by kernel_rfl) (by kernel_rfl) (fun _ _ _ h => h) (by rfl) ?_ (by assumption) ?_
    rotate_left
    · intro w hSw; (try dsimp only at hSw); go_simp; try with_reducible rfl
    (try simp only [Act.put, List.setIfInBounds_toArray, List.set_cons_zero, List.set_cons_succ])
    refine wpAnyH_ready (rs := [14]) (by kernel_rfl) (by simp) ?_
    refine reg_each (o := _) rfl (fun K hK => ?_) ?_
    · skip
      go_simp
      refine (HB.out _).mono ?_
      rintro e w2 ⟨rfl, rfl⟩
      go_wp2_with (fail)
      refine hK.out _ _ ?_ (fun hHeld2 => ?_)
      · exact keep10 hHeld.1
      clear hK K hHeld
      have hHeld := hHeld2
      clear hHeld2
      (try simp only [Act.put, List.setIfInBounds_toArray, List.set_cons_zero, List.set_cons_succ])
      refine reg_take (i := 17) (oi := _) (v := ?_) rfl (by kernel_rfl) (by kernel_rfl) (by kernel_rfl) (fun _ _ _ h => h) (by rfl) ?_ (by assumption) ?_
      rotate_left
      · intro w hSw; (try dsimp only at hSw); go_simp; try with_reducible rfl
      (try simp only [Act.put, List.setIfInBounds_toArray, List.set_cons_zero, List.set_cons_succ])
      refine reg_take (i := 18) (oi := _) (v := ?_) rfl (by kernel_rfl) (by kernel_rfl) (by kernel_rfl) (fun _ _ _ h => h) (by rfl) ?_ (by assumption) ?_
      rotate_left
      · intro w hSw; (try dsimp only at hSw); go_simp; try with_reducible rfl
      (try simp only [Act.put, List.setIfInBounds_toArray, List.set_cons_zero, List.set_cons_succ])
      refine wpAnyH_ready (rs := [19]) (by kernel_rfl) (by simp) ?_
      refine reg_each (o := _) rfl (fun K hK => ?_) ?_
      · skip
        go_simp
        refine hK.out _ _ ?_ (fun hHeld2 => ?_)
        · first | exact keep10 (Blk.drew (Blk.alloc hb _)) | exact keep10 (Blk.alloc (Blk.drew hb) _)
        clear hK K hHeld
        have hHeld := hHeld2
        clear hHeld2
        (try simp only [Act.put, List.setIfInBounds_toArray, List.set_cons_zero, List.set_cons_succ])
        refine reg_take (i := 22) (oi := _) (v := ?_) rfl (by kernel_rfl) (by kernel_rfl) (by kernel_rfl) (fun _ _ _ h => h) (by rfl) ?_ (by assumption) ?_
        rotate_left
        · intro w hSw; (try dsimp only at hSw); go_simp; try with_reducible rfl
        (try simp only [Act.put, List.setIfInBounds_toArray, List.set_cons_zero, List.set_cons_succ])
        refine wpAnyH_ready (rs := [23]) (by kernel_rfl) (by simp) ?_
        refine reg_each (o := _) rfl (fun K hK => ?_) ?_
        · skip
          go_simp
          refine hK.out _ _ ?_ (fun hHeld2 => ?_)
          · exact hHeld
          clear hK K hHeld
          have hHeld := hHeld2
          clear hHeld2
          (try simp only [Act.put, List.setIfInBounds_toArray, List.set_cons_zero, List.set_cons_succ])
          refine reg_take (i := 24) (oi := _) (v := ?_) rfl (by kernel_rfl) (by kernel_rfl) (by kernel_rfl) (fun _ _ _ h => h) (by rfl) ?_ (by assumption) ?_
          rotate_left
          · intro w hSw; (try dsimp only at hSw); go_simp; try with_reducible rfl
          (try simp only [Act.put, List.setIfInBounds_toArray, List.set_cons_zero, List.set_cons_succ])
          refine wpAnyH_done (by kernel_rfl) ?_ _
          refine NoPanic.normal ?_
          go_wp2_with (fail)
          go_meet
          exact ⟨rfl, Blk.drew (Blk.alloc hb _), (W6.out.alloc _).drew, below_drewN (B6.alloc B6.size _) 1⟩
        exact AllReadyH.nil
      exact AllReadyH.nil
    exact AllReadyH.nil
  case rest =>
    obtain ⟨rfl, b7, w7, B7⟩ := hcut
    clear hb b6 W6 B6
    have A2 := fun w => admit_walk ⟨4, s, en, ti, bl, dn, fl, ac, op, 222⟩ w
    rw [adm_5] at A2
    unfold Cs.cells at A2
    dsimp only at A2
    have HA := Lib.hid A2; clear A2
    have W7 := Lib.hid w7; clear w7
    obtain ⟨⟨c0, c1, c2, c3, c4, c5, c6, c7, c8, c9⟩, _, zl⟩ := cells10 b7
    clear b7
    simp only [Bool.false_eq_true, if_false] at HA
    go_wp2_with (fail)
    refine (HA.out _).mono ?_
    rintro e w8 ⟨rfl, hb8⟩
    go_wp2_with (fail)
    refine (sure_walk _ (W7.out.below hb8)).mono ?_
    rintro e w9 ⟨rfl, hb9⟩
    go_wp2
    go_ret
    exact ⟨rfl, below_trans (below_trans B7 hb8) hb9⟩
set_option maxRecDepth 100000 in
set_option maxHeartbeats 8000000 in
theorem forced_6 (s : Int) (en ti bl dn fl ac : Bool) (k0 op fo k : Int) (w : World) (hw : WordsOk w) (hc : 1 + (IntKind.u64.wrap k).tmod 7 = 6) :
    Calls Tryd.prog 3 #[.agg #[.int .i64 k0, .int .i64 s, .bool en, .bool ti, .bool bl, .bool dn, .bool fl, .bool ac, .int .i64 op, .int .i64 fo], .int .i64 k] w fun e w' => e = .returned (.bool true) ∧ Below w.heap.size w w' := by
  obtain ⟨u1, u2⟩ := u64m_bd k 7 (by decide)
  have HB := Lib.hid (bit_walk 4 s)
  go_enter Tryd.func3, Tryd.ntmps3
  have q5 := Blk.new1 w (.cells #[.int .i64 k0, .int .i64 s, .bool en, .bool ti, .bool bl, .bool dn, .bool fl, .bool ac, .int .i64 op, .int .i64 fo] 23) 24 #[.int .i64 4, .int .i64 s, .bool en, .bool ti, .bool bl, .bool dn, .bool fl, .bool ac, .int .i64 op, .int .i64 254]
  have w5 := (hw.alloc (.cells #[.int .i64 k0, .int .i64 s, .bool en, .bool ti, .bool bl, .bool dn, .bool fl, .bool ac, .int .i64 op, .int .i64 fo] 23)).alloc (.cells #[.int .i64 4, .int .i64 s, .bool en, .bool ti, .bool bl, .bool dn, .bool fl, .bool ac, .int .i64 op, .int .i64 254] 24)
  have B0 := below_al (below_al (Below.refl w.heap.size w) (.cells #[.int .i64 k0, .int .i64 s, .bool en, .bool ti, .bool bl, .bool dn, .bool fl, .bool ac, .int .i64 op, .int .i64 fo] 23)) (.cells #[.int .i64 4, .int .i64 s, .bool en, .bool ti, .bool bl, .bool dn, .bool fl, .bool ac, .int .i64 op, .int .i64 254] 24)
  have Q5 := Lib.hid q5; have W5 := Lib.hid w5; clear q5 w5 hw
  go_wp2_with (fail)
  refine (admit_walk ⟨4, s, en, ti, bl, dn, fl, ac, op, 254⟩ _).mono ?_
  rintro e w1 ⟨rfl, hb1⟩
  rw [adm_254]
  have b5 := Q5.out.below hb1
  have hw1 := W5.out.below hb1
  have B1 := below_trans B0 hb1
  have hgl : w.heap.size ≤ w.heap.size + 1 := by omega
  obtain ⟨⟨c0, c1, c2, c3, c4, c5, c6, c7, c8, c9⟩, ⟨f0, f1, f2, f3, f4, f5, f6, f7, f8, f9⟩, zl⟩ := cells10 b5
  have B5 := Lib.hid b5; have HW := Lib.hid hw1
  clear b5 hw1 Q5 W5 B0 hb1
  go_upto_region 6 with (fail)
  generalize hn : 1 + (IntKind.u64.wrap k).tmod 7 = n at *
  obtain rfl : n = 6 := hc
  have hand : bits .andNot .i64 254 64 = 190 := by decide
  go_upto_region 7 with (fail)
  have hwn : IntKind.i64.wrap 5 = 5 := by decide
  have b6 : Blk (w1.setCell ⟨w.heap.size + 1, 9, none⟩ (.int .i64 190)) (w.heap.size + 1) 24 #[.int .i64 4, .int .i64 s, .bool en, .bool ti, .bool bl, .bool dn, .bool fl, .bool ac, .int .i64 op, .int .i64 190] := B5.out.put 9 _ rfl
  have B6 : Below w.heap.size w (w1.setCell ⟨w.heap.size + 1, 9, none⟩ (.int .i64 190)) := B1.setCell (by simp) _
  have w6 : WordsOk (w1.setCell ⟨w.heap.size + 1, 9, none⟩ (.int .i64 190)) := HW.out.far (by simp) _
  clear hand c0 c1 c2 c3 c4 c5 c6 c7 c8 c9 f0 f1 f2 f3 f4 f5 f6 f7 f8 f9 zl B1 B5 HW
  generalize w1.setCell ⟨w.heap.size + 1, 9, none⟩ (.int .i64 190) = W at *
  generalize hgg : w.heap.size + 1 = g at *
  have hb := b6
  have W6 := Lib.hid w6; clear w6
  go_cut [7] (fun s7 wx => s7 = .bool (false) ∧ Blk wx g 24 #[.int .i64 4, .int .i64 s, .bool en, .bool ti, .bool bl, .bool dn, .bool fl, .bool ac, .int .i64 op, .int .i64 190] ∧ WordsOk wx ∧ Below w.heap.size w wx)
  case first =>
    refine wp_region_noPanic ?_
    refine wp_region_held_drew (S := (fun w' => Blk w' g 24 #[.int .i64 4, .int .i64 s, .bool en, .bool ti, .bool bl, .bool dn, .bool fl, .bool ac, .int .i64 op, .int .i64 190] ∧ g < w'.heap.size ∧ w'.cell? ⟨g, 0, none⟩ = some (.int .i64 4) ∧ w'.cell? ⟨g, 1, none⟩ = some (.int .i64 s) ∧ w'.cell? ⟨g, 2, none⟩ = some (.bool en) ∧ w'.cell? ⟨g, 3, none⟩ = some (.bool ti) ∧ w'.cell? ⟨g, 4, none⟩ = some (.bool bl) ∧ w'.cell? ⟨g, 5, none⟩ = some (.bool dn) ∧ w'.cell? ⟨g, 6, none⟩ = some (.bool fl) ∧ w'.cell? ⟨g, 7, none⟩ = some (.bool ac) ∧ w'.cell? ⟨g, 8, none⟩ = some (.int .i64 op) ∧ w'.cell? ⟨g, 9, none⟩ = some (.int .i64 190))) (by kernel_rfl) ?_ (fun hHeld => ?_)
    · exact keep10 (Blk.drew hb)
    refine reg_take (i := 0) (oi := _) (v := ?_) rfl (by kernel_rfl) (by kernel_rfl) (by kernel_rfl) (fun _ _ _ h => h) (by rfl) ?_ (by assumption) ?_
    rotate_left
    · intro w hSw; (try dsimp only at hSw); go_simp; try with_reducible rfl
    (try simp only [Act.put, List.setIfInBounds_toArray, List.set_cons_zero, List.set_cons_succ])
    refine reg_take (i := 1) (oi := _) (v := ?_) rfl (by kernel_rfl) (by kernel_rfl) (by kernel_rfl) (fun _ _ _ h => h) (by rfl) ?_ (by assumption) ?_
    rotate_left
    · intro w hSw; (try dsimp only at hSw); go_simp; try with_reducible rfl
    (try simp only [Act.put, List.setIfInBounds_toArray, List.set_cons_zero, List.set_cons_succ])
    refine reg_take (i := 2) (oi := _) (v := ?_) rfl (by kernel_rfl) (by kernel_rfl) (by kernel_rfl) (fun _ _ _ h => h) (by rfl) ?_ (by assumption) ?_
    rotate_left
    · intro w hSw; (try dsimp only at hSw); go_simp; try with_reducible rfl
    (try simp only [Act.put, List.setIfInBounds_toArray, List.set_cons_zero, List.set_cons_succ])
    refine reg_take (i := 3) (oi := _) (v := ?_) rfl (by kernel_rfl) (by kernel_rfl) (by kernel_rfl) (fun _ _ _ h => h) (by rfl) ?_ (by assumption) ?_
    rotate_left
    · intro w hSw; (try dsimp only at hSw); go_simp; try with_reducible rfl
    (try simp only [Act.put, List.setIfInBounds_toArray, List.set_cons_zero, List.set_cons_succ])
    refine reg_take (i := 4) (oi := _) (v := ?_) rfl (by kernel_rfl) (by kernel_rfl) (by kernel_rfl) (fun _ _ _ h => h) (by rfl) ?_ (by assumption) ?_
    rotate_left
    · intro w hSw; (try dsimp only at hSw); go_simp; try with_reducible rfl
    (try simp only [Act.put, List.setIfInBounds_toArray, List.set_cons_zero, List.set_cons_succ])
    refine reg_take (i := 5) (oi := _) (v := ?_) rfl (by kernel_rfl) (by kernel_rfl) (by kernel_rfl) (fun _ _ _ h => h) (by rfl) ?_ (by assumption) ?_
    rotate_left
    · intro w hSw; (try dsimp only at hSw); go_simp; try with_reducible rfl
    (try simp only [Act.put, List.setIfInBounds_toArray, List.set_cons_zero, List.set_cons_succ])
    refine reg_take (i := 6) (oi := _) (v := ?_) rfl (by kernel_rfl) (by kernel_rfl) (by kernel_rfl) (fun _ _ _ h => h) (by rfl) ?_ (by assumption) ?_
    rotate_left
    · intro w hSw; (try dsimp only at hSw); go_simp; try with_reducible rfl
    (try simp only [Act.put, List.setIfInBounds_toArray, List.set_cons_zero, List.set_cons_succ])
    refine reg_take (i := 7) (oi := _) (v := ?_) rfl (by kernel_rfl) (by kernel_rfl) (by kernel_rfl) (fun _ _ _ h => h) (by rfl) ?_ (by assumption) ?_
    rotate_left
    · intro w hSw; (try dsimp only at hSw); go_simp; try with_reducible rfl
    (try simp only [Act.put, List.setIfInBounds_toArray, List.set_cons_zero, List.set_cons_succ])
    refine reg_take (i := 8) (oi := _) (v := ?_) rfl (by kernel_rfl) (by kernel_rfl) (by kernel_rfl) (fun _ _ _ h => h) (by rfl) ?_ (by assumption) ?_
    rotate_left
    · intro w hSw; (try dsimp only at hSw); go_simp; try with_reducible rfl
    (try simp only [Act.put, List.setIfInBounds_toArray, List.set_cons_zero, List.set_cons_succ])
    refine reg_take (i := 9) (oi := _) (v := ?_) rfl (by kernel_rfl) (by kernel_rfl) (by kernel_rfl) (fun _ _ _ h => h) (by rfl) ?_ (by assumption) ?_
    rotate_left
    · intro w hSw; (try dsimp only at hSw); go_simp; try with_reducible rfl
    (try simp only [Act.put, List.setIfInBounds_toArray, List.set_cons_zero, List.set_cons_succ])
    refine reg_take (i := 10) (oi := _) (v := ?_) rfl (by kernel_rfl) (by kernel_rfl) (by kernel_rfl) (fun _ _ _ h => h) (by rfl) ?_ (by assumption) ?_
    rotate_left
    · intro w hSw; (try dsimp only at hSw); go_simp; try with_reducible rfl
    (try simp only [Act.put, List.setIfInBounds_toArray, List.set_cons_zero, List.set_cons_succ])
    refine reg_take (i := 11) (oi := _) (v := ?_) rfl (by kernel_rfl) (by kernel_rfl) (by kernel_rfl) (fun _ _ _ h => h) (by rfl) ?_ (by assumption) ?_
    rotate_left
    · intro w hSw; (try dsimp only at hSw); go_simp; try with_reducible rfl
    (try simp only [Act.put, List.setIfInBounds_toArray, List.set_cons_zero, List.set_cons_succ])
    refine reg_take (i := 12) (oi := _) (v := ?_) rfl (by kernel_rfl) (by kernel_rfl) (by kernel_rfl) (fun _ _ _ h => h) (by rfl) ?_ (by assumption) ?_
    rotate_left
    · intro w hSw; (try dsimp only at hSw); go_simp; try with_reducible rfl
    (try simp only [Act.put, List.setIfInBounds_toArray, List.set_cons_zero, List.set_cons_succ])
    refine reg_take (i := 13) (oi := _) (v := ?_) rfl (by kernel_rfl) (by kernel_rfl) (by kernel_rfl) (fun _ _ _ h => h) (by rfl) ?_ (by assumption) ?_
    rotate_left
    · intro w hSw; (try dsimp only at hSw); go_simp; try with_reducible rfl
    (try simp only [Act.put, List.setIfInBounds_toArray, List.set_cons_zero, List.set_cons_succ])
    refine reg_take (i := 15) (oi := _) (v := ?_) rfl (by kernel_rfl) (by kernel_rfl) (by kernel_rfl) (fun _ _ _ h => h) (by rfl) ?_ (by assumption) ?_
    rotate_left
    · intro w hSw; (try dsimp only at hSw); go_simp; try with_reducible rfl
    (try simp only [Act.put, List.setIfInBounds_toArray, List.set_cons_zero, List.set_cons_succ])
    refine reg_take (i := 16) (oi := _) (v := ?_) rfl (by kernel_rfl) (by kernel_rfl) (by kernel_rfl) (fun _ _ _ h => h) (by rfl) ?_ (by assumption) ?_
    rotate_left
    · intro w hSw; (try dsimp only at hSw); go_simp; try with_reducible rfl
    (try simp only [Act.put, List.setIfInBounds_toArray, List.set_cons_zero, List.set_cons_succ])
    refine reg_take (i := 20) (oi := _) (v := ?_) rfl (by kernel_rfl) (by kernel_rfl) (by kernel_rfl) (fun _ _ _ h => h) (by rfl) ?_ (by assumption) ?_
    rotate_left
    · intro w hSw; (try dsimp only at hSw); go_simp; try with_reducible rfl
    (try simp only [Act.put, List.setIfInBounds_toArray, List.set_cons_zero, List.set_cons_succ])
    refine reg_take (i := 21) (oi := _) (v := ?_) rfl (by kernel_rfl) (by kernel_rfl) (by kernel_rfl) (fun _ _ _ h => h) (by rfl) ?_ (by assumption) ?_
    rotate_left
    · intro w hSw; (try dsimp only at hSw); go_simp; try with_reducible rfl
    (try simp only [Act.put, List.setIfInBounds_toArray, List.set_cons_zero, List.set_cons_succ])
    refine wpAnyH_ready (rs := [14]) (by kernel_rfl) (by simp) ?_
    refine reg_each (o := _) rfl (fun K hK => ?_) ?_
    · skip
      go_simp
      refine (HB.out _).mono ?_
      rintro e w2 ⟨rfl, rfl⟩
      go_wp2_with (fail)
      refine hK.out _ _ ?_ (fun hHeld2 => ?_)
      · exact keep10 hHeld.1
      clear hK K hHeld
      have hHeld := hHeld2
      clear hHeld2
      (try simp only [Act.put, List.setIfInBounds_toArray, List.set_cons_zero, List.set_cons_succ])
      refine reg_take (i := 17) (oi := _) (v := ?_) rfl (by kernel_rfl) (by kernel_rfl) (by kernel_rfl) (fun _ _ _ h => h) (by rfl) ?_ (by assumption) ?_
      rotate_left
      · intro w hSw; (try dsimp only at hSw); go_simp; try with_reducible rfl
      (try simp only [Act.put, List.setIfInBounds_toArray, List.set_cons_zero, List.set_cons_succ])
      refine reg_take (i := 18) (oi := _) (v := ?_) rfl (by kernel_rfl) (by kernel_rfl) (by kernel_rfl) (fun _ _ _ h => h) (by rfl) ?_ (by assumption) ?_
      rotate_left
      · intro w hSw; (try dsimp only at hSw); go_simp; try with_reducible rfl
      (try simp only [Act.put, List.setIfInBounds_toArray, List.set_cons_zero, List.set_cons_succ])
      refine wpAnyH_ready (rs := [19]) (by kernel_rfl) (by simp) ?_
      refine reg_each (o := _) rfl (fun K hK => ?_) ?_
      · skip
        go_simp
        refine hK.out _ _ ?_ (fun hHeld2 => ?_)
        · first | exact keep10 (Blk.drew (Blk.alloc hb _)) | exact keep10 (Blk.alloc (Blk.drew hb) _)
        clear hK K hHeld
        have hHeld := hHeld2
        clear hHeld2
        (try simp only [Act.put, List.setIfInBounds_toArray, List.set_cons_zero, List.set_cons_succ])
        refine reg_take (i := 22) (oi := _) (v := ?_) rfl (by kernel_rfl) (by kernel_rfl) (by kernel_rfl) (fun _ _ _ h => h) (by rfl) ?_ (by assumption) ?_
        rotate_left
        · intro w hSw; (try dsimp only at hSw); go_simp; try with_reducible rfl
        (try simp only [Act.put, List.setIfInBounds_toArray, List.set_cons_zero, List.set_cons_succ])
        refine wpAnyH_ready (rs := [23]) (by kernel_rfl) (by simp) ?_
        refine reg_each (o := _) rfl (fun K hK => ?_) ?_
        · skip
          go_simp
          refine hK.out _ _ ?_ (fun hHeld2 => ?_)
          · exact hHeld
          clear hK K hHeld
          have hHeld := hHeld2
          clear hHeld2
          (try simp only [Act.put, List.setIfInBounds_toArray, List.set_cons_zero, List.set_cons_succ])
          refine reg_take (i := 24) (oi := _) (v := ?_) rfl (by kernel_rfl) (by kernel_rfl) (by kernel_rfl) (fun _ _ _ h => h) (by rfl) ?_ (by assumption) ?_
          rotate_left
          · intro w hSw; (try dsimp only at hSw); go_simp; try with_reducible rfl
          (try simp only [Act.put, List.setIfInBounds_toArray, List.set_cons_zero, List.set_cons_succ])
          refine wpAnyH_done (by kernel_rfl) ?_ _
          refine NoPanic.normal ?_
          go_wp2_with (fail)
          go_meet
          exact ⟨rfl, Blk.drew (Blk.alloc hb _), (W6.out.alloc _).drew, below_drewN (B6.alloc B6.size _) 1⟩
        exact AllReadyH.nil
      exact AllReadyH.nil
    exact AllReadyH.nil
  case rest =>
    obtain ⟨rfl, b7, w7, B7⟩ := hcut
    clear hb b6 W6 B6
    have A2 := fun w => admit_walk ⟨4, s, en, ti, bl, dn, fl, ac, op, 190⟩ w
    rw [adm_6] at A2
    unfold Cs.cells at A2
    dsimp only at A2
    have HA := Lib.hid A2; clear A2
    have W7 := Lib.hid w7; clear w7
    obtain ⟨⟨c0, c1, c2, c3, c4, c5, c6, c7, c8, c9⟩, _, zl⟩ := cells10 b7
    clear b7
    simp only [Bool.false_eq_true, if_false] at HA
    go_wp2_with (fail)
    refine (HA.out _).mono ?_
    rintro e w8 ⟨rfl, hb8⟩
    go_wp2_with (fail)
    refine (sure_walk _ (W7.out.below hb8)).mono ?_
    rintro e w9 ⟨rfl, hb9⟩
    go_wp2
    go_ret
    exact ⟨rfl, below_trans (below_trans B7 hb8) hb9⟩
set_option maxRecDepth 100000 in
set_option maxHeartbeats 8000000 in
theorem forced_7 (s : Int) (en ti bl dn fl ac : Bool) (k0 op fo k : Int) (w : World) (hw : WordsOk w) (hc : 1 + (IntKind.u64.wrap k).tmod 7 = 7) :
    Calls Tryd.prog 3 #[.agg #[.int .i64 k0, .int .i64 s, .bool en, .bool ti, .bool bl, .bool dn, .bool fl, .bool ac, .int .i64 op, .int .i64 fo], .int .i64 k] w fun e w' => e = .returned (.bool true) ∧ Below w.heap.size w w' := by
  obtain ⟨u1, u2⟩ := u64m_bd k 7 (by decide)
  have HB := Lib.hid (bit_walk 4 s)
  go_enter Tryd.func3, Tryd.ntmps3
  have q5 := Blk.new1 w (.cells #[.int .i64 k0, .int .i64 s, .bool en, .bool ti, .bool bl, .bool dn, .bool fl, .bool ac, .int .i64 op, .int .i64 fo] 23) 24 #[.int .i64 4, .int .i64 s, .bool en, .bool ti, .bool bl, .bool dn, .bool fl, .bool ac, .int .i64 op, .int .i64 254]
  have w5 := (hw.alloc (.cells #[.int .i64 k0, .int .i64 s, .bool en, .bool ti, .bool bl, .bool dn, .bool fl, .bool ac, .int .i64 op, .int .i64 fo] 23)).alloc (.cells #[.int .i64 4, .int .i64 s, .bool en, .bool ti, .bool bl, .bool dn, .bool fl, .bool ac, .int .i64 op, .int .i64 254] 24)
  have B0 := below_al (below_al (Below.refl w.heap.size w) (.cells #[.int .i64 k0, .int .i64 s, .bool en, .bool ti, .bool bl, .bool dn, .bool fl, .bool ac, .int .i64 op, .int .i64 fo] 23)) (.cells #[.int .i64 4, .int .i64 s, .bool en, .bool ti, .bool bl, .bool dn, .bool fl, .bool ac, .int .i64 op, .int .i64 254] 24)
  have Q5 := Lib.hid q5; have W5 := Lib.hid w5; clear q5 w5 hw
  go_wp2_with (fail)
  refine (admit_walk ⟨4, s, en, ti, bl, dn, fl, ac, op, 254⟩ _).mono ?_
  rintro e w1 ⟨rfl, hb1⟩
  rw [adm_254]
  have b5 := Q5.out.below hb1
  have hw1 := W5.out.below hb1
  have B1 := below_trans B0 hb1
  have hgl : w.heap.size ≤ w.heap.size + 1 := by omega
  obtain ⟨⟨c0, c1, c2, c3, c4, c5, c6, c7, c8, c9⟩, ⟨f0, f1, f2, f3, f4, f5, f6, f7, f8, f9⟩, zl⟩ := cells10 b5
  have B5 := Lib.hid b5; have HW := Lib.hid hw1
  clear b5 hw1 Q5 W5 B0 hb1
  go_upto_region 6 with (fail)
  generalize hn : 1 + (IntKind.u64.wrap k).tmod 7 = n at *
  obtain rfl : n = 7 := hc
  have hand : bits .andNot .i64 254 128 = 126 := by decide
  go_upto_region 7 with (fail)
  have hwn : IntKind.i64.wrap 6 = 6 := by decide
  have b6 : Blk (w1.setCell ⟨w.heap.size + 1, 9, none⟩ (.int .i64 126)) (w.heap.size + 1) 24 #[.int .i64 4, .int .i64 s, .bool en, .bool ti, .bool bl, .bool dn, .bool fl, .bool ac, .int .i64 op, .int .i64 126] := B5.out.put 9 _ rfl
  have B6 : Below w.heap.size w (w1.setCell ⟨w.heap.size + 1, 9, none⟩ (.int .i64 126)) := B1.setCell (by simp) _
  have w6 : WordsOk (w1.setCell ⟨w.heap.size + 1, 9, none⟩ (.int .i64 126)) := HW.out.far (by simp) _
  clear hand c0 c1 c2 c3 c4 c5 c6 c7 c8 c9 f0 f1 f2 f3 f4 f5 f6 f7 f8 f9 zl B1 B5 HW
  generalize w1.setCell ⟨w.heap.size + 1, 9, none⟩ (.int .i64 126) = W at *
  generalize hgg : w.heap.size + 1 = g at *
  have hb := b6
  have W6 := Lib.hid w6; clear w6
  go_cut [7] (fun s7 wx => s7 = .bool (bits .and .i64 (bitF 4 s) op == 0) ∧ Blk wx g 24 #[.int .i64 4, .int .i64 s, .bool en, .bool ti, .bool bl, .bool dn, .bool fl, .bool ac, .int .i64 op, .int .i64 126] ∧ WordsOk wx ∧ Below w.heap.size w wx)
  case first =>
    refine wp_region_noPanic ?_
    refine wp_region_held_drew (S := (fun w' => Blk w' g 24 #[.int .i64 4, .int .i64 s, .bool en, .bool ti, .bool bl, .bool dn, .bool fl, .bool ac, .int .i64 op, .int .i64 126] ∧ g < w'.heap.size ∧ w'.cell? ⟨g, 0, none⟩ = some (.int .i64 4) ∧ w'.cell? ⟨g, 1, none⟩ = some (.int .i64 s) ∧ w'.cell? ⟨g, 2, none⟩ = some (.bool en) ∧ w'.cell? ⟨g, 3, none⟩ = some (.bool ti) ∧ w'.cell? ⟨g, 4, none⟩ = some (.bool bl) ∧ w'.cell? ⟨g, 5, none⟩ = some (.bool dn) ∧ w'.cell? ⟨g, 6, none⟩ = some (.bool fl) ∧ w'.cell? ⟨g, 7, none⟩ = some (.bool ac) ∧ w'.cell? ⟨g, 8, none⟩ = some (.int .i64 op) ∧ w'.cell? ⟨g, 9, none⟩ = some (.int .i64 126))) (by kernel_rfl) ?_ (fun hHeld => ?_)
    · exact keep10 (Blk.drew hb)
    refine reg_take (i := 0) (oi := _) (v := ?_) rfl (by kernel_rfl) (by kernel_rfl) (by kernel_rfl) (fun _ _ _ h => h) (by rfl) ?_ (by assumption) ?_
    rotate_left
    · intro w hSw; (try dsimp only at hSw); go_simp; try with_reducible rfl
    (try simp only [Act.put, List.setIfInBounds_toArray, List.set_cons_zero, List.set_cons_succ])
    refine reg_take (i := 1) (oi := _) (v := ?_) rfl (by kernel_rfl) (by kernel_rfl) (by kernel_rfl) (fun _ _ _ h => h) (by rfl) ?_ (by assumption) ?_
    rotate_left
    · intro w hSw; (try dsimp only at hSw); go_simp; try with_reducible rfl
    (try simp only [Act.put, List.setIfInBounds_toArray, List.set_cons_zero, List.set_cons_succ])
    refine reg_take (i := 2) (oi := _) (v := ?_) rfl (by kernel_rfl) (by kernel_rfl) (by kernel_rfl) (fun _ _ _ h => h) (by rfl) ?_ (by assumption) ?_
    rotate_left
    · intro w hSw; (try dsimp only at hSw); go_simp; try with_reducible rfl
    (try simp only [Act.put, List.setIfInBounds_toArray, List.set_cons_zero, List.set_cons_succ])
    refine reg_take (i := 3) (oi := _) (v := ?_) rfl (by kernel_rfl) (by kernel_rfl) (by kernel_rfl) (fun _ _ _ h => h) (by rfl) ?_ (by assumption) ?_
    rotate_left
    · intro w hSw; (try dsimp only at hSw); go_simp; try with_reducible rfl
    (try simp only [Act.put, List.setIfInBounds_toArray, List.set_cons_zero, List.set_cons_succ])
    refine reg_take (i := 4) (oi := _) (v := ?_) rfl (by kernel_rfl) (by kernel_rfl) (by kernel_rfl) (fun _ _ _ h => h) (by rfl) ?_ (by assumption) ?_
    rotate_left
    · intro w hSw; (try dsimp only at hSw); go_simp; try with_reducible rfl
    (try simp only [Act.put, List.setIfInBounds_toArray, List.set_cons_zero, List.set_cons_succ])
    refine reg_take (i := 5) (oi := _) (v := ?_) rfl (by kernel_rfl) (by kernel_rfl) (by kernel_rfl) (fun _ _ _ h => h) (by rfl) ?_ (by assumption) ?_
    rotate_left
    · intro w hSw; (try dsimp only at hSw); go_simp; try with_reducible rfl
    (try simp only [Act.put, List.setIfInBounds_toArray, List.set_cons_zero, List.set_cons_succ])
    refine reg_take (i := 6) (oi := _) (v := ?_) rfl (by kernel_rfl) (by kernel_rfl) (by kernel_rfl) (fun _ _ _ h => h) (by rfl) ?_ (by assumption) ?_
    rotate_left
    · intro w hSw; (try dsimp only at hSw); go_simp; try with_reducible rfl
    (try simp only [Act.put, List.setIfInBounds_toArray, List.set_cons_zero, List.set_cons_succ])
    refine reg_take (i := 7) (oi := _) (v := ?_) rfl (by kernel_rfl) (by kernel_rfl) (by kernel_rfl) (fun _ _ _ h => h) (by rfl) ?_ (by assumption) ?_
    rotate_left
    · intro w hSw; (try dsimp only at hSw); go_simp; try with_reducible rfl
    (try simp only [Act.put, List.setIfInBounds_toArray, List.set_cons_zero, List.set_cons_succ])
    refine reg_take (i := 8) (oi := _) (v := ?_) rfl (by kernel_rfl) (by kernel_rfl) (by kernel_rfl) (fun _ _ _ h => h) (by rfl) ?_ (by assumption) ?_
    rotate_left
    · intro w hSw; (try dsimp only at hSw); go_simp; try with_reducible rfl
    (try simp only [Act.put, List.setIfInBounds_toArray, List.set_cons_zero, List.set_cons_succ])
    refine reg_take (i := 9) (oi := _) (v := ?_) rfl (by kernel_rfl) (by kernel_rfl) (by kernel_rfl) (fun _ _ _ h => h) (by rfl) ?_ (by assumption) ?_
    rotate_left
    · intro w hSw; (try dsimp only at hSw); go_simp; try with_reducible rfl
    (try simp only [Act.put, List.setIfInBounds_toArray, List.set_cons_zero, List.set_cons_succ])
    refine reg_take (i := 10) (oi := _) (v := ?_) rfl (by kernel_rfl) (by kernel_rfl) (by kernel_rfl) (fun _ _ _ h => h) (by rfl) ?_ (by assumption) ?_
    rotate_left
    · intro w hSw; (try dsimp only at hSw); go_simp; try with_reducible rfl
    (try simp only [Act.put, List.setIfInBounds_toArray, List.set_cons_zero, List.set_cons_succ])
    refine reg_take (i := 11) (oi := _) (v := ?_) rfl (by kernel_rfl) (by kernel_rfl) (by kernel_rfl) (fun _ _ _ h => h) (by rfl) ?_ (by assumption) ?_
    rotate_left
    · intro w hSw; (try dsimp only at hSw); go_simp; try with_reducible rfl
    (try simp only [Act.put, List.setIfInBounds_toArray, List.set_cons_zero, List.set_cons_succ])
    refine reg_take (i := 12) (oi := _) (v := ?_) rfl (by kernel_rfl) (by kernel_rfl) (by kernel_rfl) (fun _ _ _ h => h) (by rfl) ?_ (by assumption) ?_
    rotate_left
    · intro w hSw; (try dsimp only at hSw); go_simp; try with_reducible rfl
    (try simp only [Act.put, List.setIfInBounds_toArray, List.set_cons_zero, List.set_cons_succ])
    refine reg_take (i := 13) (oi := _) (v := ?_) rfl (by kernel_rfl) (by kernel_rfl) (by kernel_rfl) (fun _ _ _ h => h) (by rfl) ?_ (by assumption) ?_
    rotate_left
    · intro w hSw; (try dsimp only at hSw); go_simp; try with_reducible rfl
    (try simp only [Act.put, List.setIfInBounds_toArray, List.set_cons_zero, List.set_cons_succ])
    refine reg_take (i := 15) (oi := _) (v := ?_) rfl (by kernel_rfl) (by kernel_rfl) (by kernel_rfl) (fun _ _ _ h => h) (by rfl) ?_ (by assumption) ?_
    rotate_left
    · intro w hSw; (try dsimp only at hSw); go_simp; try with_reducible rfl
    (try simp only [Act.put, List.setIfInBounds_toArray, List.set_cons_zero, List.set_cons_succ])
    refine reg_take (i := 16) (oi := _) (v := ?_) rfl (by kernel_rfl) (by kernel_rfl) (by kernel_rfl) (fun _ _ _ h => h) (by rfl) ?_ (by assumption) ?_
    rotate_left
    · intro w hSw; (try dsimp only at hSw); go_simp; try with_reducible rfl
    (try simp only [Act.put, List.setIfInBounds_toArray, List.set_cons_zero, List.set_cons_succ])
    refine reg_take (i := 20) (oi := _) (v := ?_) rfl (by kernel_rfl) (by kernel_rfl) (by kernel_rfl) (fun _ _ _ h => h) (by rfl) ?_ (by assumption) ?_
    rotate_left
    · intro w hSw; (try dsimp only at hSw); go_simp; try with_reducible rfl
    (try simp only [Act.put, List.setIfInBounds_toArray, List.set_cons_zero, List.set_cons_succ])
    refine reg_take (i := 21) (oi := _) (v := ?_) rfl (by kernel_rfl) (by kernel_rfl) (by kernel_rfl) (fun _ _ _ h => h) (by rfl) ?_ (by assumption) ?_
    rotate_left
    · intro w hSw; (try dsimp only at hSw); go_simp; try with_reducible rfl
    (try simp only [Act.put, List.setIfInBounds_toArray, List.set_cons_zero, List.set_cons_succ])
    refine wpAnyH_ready (rs := [14]) (by kernel_rfl) (by simp) ?_
    refine reg_each (o := _) rfl (fun K hK => ?_) ?_
    · skip
      go_simp
      refine (HB.out _).mono ?_
      rintro e w2 ⟨rfl, rfl⟩
      go_wp2_with (fail)
      refine hK.out _ _ ?_ (fun hHeld2 => ?_)
      · exact keep10 hHeld.1
      clear hK K hHeld
      have hHeld := hHeld2
      clear hHeld2
      (try simp only [Act.put, List.setIfInBounds_toArray, List.set_cons_zero, List.set_cons_succ])
      refine reg_take (i := 17) (oi := _) (v := ?_) rfl (by kernel_rfl) (by kernel_rfl) (by kernel_rfl) (fun _ _ _ h => h) (by rfl) ?_ (by assumption) ?_
      rotate_left
      · intro w hSw; (try dsimp only at hSw); go_simp; try with_reducible rfl
      (try simp only [Act.put, List.setIfInBounds_toArray, List.set_cons_zero, List.set_cons_succ])
      refine reg_take (i := 18) (oi := _) (v := ?_) rfl (by kernel_rfl) (by kernel_rfl) (by kernel_rfl) (fun _ _ _ h => h) (by rfl) ?_ (by assumption) ?_
      rotate_left
      · intro w hSw; (try dsimp only at hSw); go_simp; try with_reducible rfl
      (try simp only [Act.put, List.setIfInBounds_toArray, List.set_cons_zero, List.set_cons_succ])
      refine wpAnyH_ready (rs := [19]) (by kernel_rfl) (by simp) ?_
      refine reg_each (o := _) rfl (fun K hK => ?_) ?_
      · skip
        go_simp
        refine hK.out _ _ ?_ (fun hHeld2 => ?_)
        · first | exact keep10 (Blk.drew (Blk.alloc hb _)) | exact keep10 (Blk.alloc (Blk.drew hb) _)
        clear hK K hHeld
        have hHeld := hHeld2
        clear hHeld2
        (try simp only [Act.put, List.setIfInBounds_toArray, List.set_cons_zero, List.set_cons_succ])
        refine reg_take (i := 22) (oi := _) (v := ?_) rfl (by kernel_rfl) (by kernel_rfl) (by kernel_rfl) (fun _ _ _ h => h) (by rfl) ?_ (by assumption) ?_
        rotate_left
        · intro w hSw; (try dsimp only at hSw); go_simp; try with_reducible rfl
        (try simp only [Act.put, List.setIfInBounds_toArray, List.set_cons_zero, List.set_cons_succ])
        refine wpAnyH_ready (rs := [23]) (by kernel_rfl) (by simp) ?_
        refine reg_each (o := _) rfl (fun K hK => ?_) ?_
        · skip
          go_simp
          refine hK.out _ _ ?_ (fun hHeld2 => ?_)
          · exact hHeld
          clear hK K hHeld
          have hHeld := hHeld2
          clear hHeld2
          (try simp only [Act.put, List.setIfInBounds_toArray, List.set_cons_zero, List.set_cons_succ])
          refine reg_take (i := 24) (oi := _) (v := ?_) rfl (by kernel_rfl) (by kernel_rfl) (by kernel_rfl) (fun _ _ _ h => h) (by rfl) ?_ (by assumption) ?_
          rotate_left
          · intro w hSw; (try dsimp only at hSw); go_simp; try with_reducible rfl
          (try simp only [Act.put, List.setIfInBounds_toArray, List.set_cons_zero, List.set_cons_succ])
          refine wpAnyH_done (by kernel_rfl) ?_ _
          refine NoPanic.normal ?_
          go_wp2_with (fail)
          go_meet
          exact ⟨rfl, Blk.drew (Blk.alloc hb _), (W6.out.alloc _).drew, below_drewN (B6.alloc B6.size _) 1⟩
        exact AllReadyH.nil
      exact AllReadyH.nil
    exact AllReadyH.nil
  case rest =>
    obtain ⟨rfl, b7, w7, B7⟩ := hcut
    clear hb b6 W6 B6
    have A2 := fun w => admit_walk ⟨4, s, en, ti, bl, dn, fl, ac, op, 126⟩ w
    rw [adm_7] at A2
    unfold Cs.cells at A2
    dsimp only at A2
    have HA := Lib.hid A2; clear A2
    have W7 := Lib.hid w7; clear w7
    obtain ⟨⟨c0, c1, c2, c3, c4, c5, c6, c7, c8, c9⟩, _, zl⟩ := cells10 b7
    clear b7
    cases hv : (bits .and .i64 (bitF 4 s) op == 0)
    · rw [hv] at HA
      simp only [Bool.false_eq_true, if_false] at HA
      go_wp2_with (fail)
      refine (HA.out _).mono ?_
      rintro e w8 ⟨rfl, hb8⟩
      go_wp2_with (fail)
      refine (sure_walk _ (W7.out.below hb8)).mono ?_
      rintro e w9 ⟨rfl, hb9⟩
      go_wp2
      go_ret
      exact ⟨rfl, below_trans (below_trans B7 hb8) hb9⟩
    · rw [hv] at HA
      simp only [if_true] at HA
      go_wp2_with (fail)
      refine (HA.out _).mono ?_
      rintro e w8 ⟨rfl, hb8⟩
      go_wp2_with (fail)
      refine (sure_walk _ (W7.out.below hb8)).mono ?_
      rintro e w9 ⟨rfl, hb9⟩
      go_wp2
      go_ret
      exact ⟨rfl, below_trans (below_trans B7 hb8) hb9⟩
theorem forced_walk (s : Int) (en ti bl dn fl ac : Bool) (k0 op fo k : Int) (w : World) (hw : WordsOk w) :
    Calls Tryd.prog 3 #[.agg #[.int .i64 k0, .int .i64 s, .bool en, .bool ti, .bool bl, .bool dn, .bool fl, .bool ac, .int .i64 op, .int .i64 fo], .int .i64 k] w fun e w' => e = .returned (.bool true) ∧ Below w.heap.size w w' := by
  obtain ⟨u1, u2⟩ := u64m_bd k 7 (by decide)
  rcases (by omega : 1 + (IntKind.u64.wrap k).tmod 7 = 1 ∨ 1 + (IntKind.u64.wrap k).tmod 7 = 2 ∨ 1 + (IntKind.u64.wrap k).tmod 7 = 3 ∨ 1 + (IntKind.u64.wrap k).tmod 7 = 4 ∨ 1 + (IntKind.u64.wrap k).tmod 7 = 5 ∨ 1 + (IntKind.u64.wrap k).tmod 7 = 6 ∨ 1 + (IntKind.u64.wrap k).tmod 7 = 7) with h | h | h | h | h | h | h
  · exact forced_1 s en ti bl dn fl ac k0 op fo k w hw h
  · exact forced_2 s en ti bl dn fl ac k0 op fo k w hw h
  · exact forced_3 s en ti bl dn fl ac k0 op fo k w hw h
  · exact forced_4 s en ti bl dn fl ac k0 op fo k w hw h
  · exact forced_5 s en ti bl dn fl ac k0 op fo k w hw h
  · exact forced_6 s en ti bl dn fl ac k0 op fo k w hw h
  · exact forced_7 s en ti bl dn fl ac k0 op fo k w hw h
end Go.Proofs.YtjffciejoahegaaDoor
