/- The law FlapRuns, walked. -/
import Derived.Test.YtndipldjkojofaaRunsAid
import Derived.Deep.CutRange
import Derived.Deep.CutBlock
namespace Go.Proofs.Ytndipldjkojofaa
open Go.RowKit
def RS (w : World) (g m : Nat) (b0 b1 : Int) (q : List Int) (v : Value) (w' : World) : Prop := w'.heap[g + 1]? = some (.cells (trk q) 26 (0, 0)) ∧ w'.cell? ⟨g + 1, 0, none⟩ = some (.int .i64 m) ∧ w'.cell? ⟨g, 0, none⟩ = some (.int .i64 b0) ∧ w'.cell? ⟨g, 1, none⟩ = some (.int .i64 b1) ∧ g < w'.heap.size ∧ g + 1 < w'.heap.size ∧ Blk w' g 31 #[.int .i64 b0, .int .i64 b1] ∧ NInts w' v q ∧ Below w.heap.size w w'
theorem NInts.drewb {w : World} {v : Value} {x : List Int} (h : NInts w v x) : NInts w.drew v x := h.below (below_drewN (Below.refl _ _) 1)
theorem rs_below {w w1 w2 : World} {g m : Nat} {b0 b1 : Int} {q : List Int} {v : Value} (h : RS w g m b0 b1 q v w1) (k : Below w1.heap.size w1 w2) : RS w g m b0 b1 q v w2 := by
  obtain ⟨a1, a2, a3, a4, a5, a6, a7, a8, a9⟩ := h
  have e1 : Blk w1 (g + 1) 26 (trk q) := a1
  have f1 := e1.below k
  have f7 := a7.below k
  refine ⟨f1, ?_, ?_, ?_, by have := k.size; omega, by have := k.size; omega, f7, a8.below k, below_trans a9 k⟩
  · rw [f1.cell, ← e1.cell]; exact a2
  · rw [f7.cell, ← a7.cell]; exact a3
  · rw [f7.cell, ← a7.cell]; exact a4
theorem rs_drew {w w1 : World} {g m : Nat} {b0 b1 : Int} {q : List Int} {v : Value} (h : RS w g m b0 b1 q v w1) : RS w g m b0 b1 q v w1.drew := rs_below h (below_drewN (Below.refl _ _) 1)
set_option linter.unusedSimpArgs false in
set_option linter.unusedVariables false in
set_option maxRecDepth 100000 in
set_option maxHeartbeats 4000000 in
theorem runs_walk (A : Option Addr) (n cap : Nat) (xs : List Int) (did : Bool) (b0 b1 : Int) (w : World) (hi : Ints w A n xs) :
    Calls Try.prog 4 #[.slice A n cap, .bool did, .agg #[.int .i64 b0, .int .i64 b1]] w fun e w' => e = .returned (.bool true) ∧ Below w.heap.size w w' := by
  have hn := hi.2.1
  have HI := Lib.hid hi; clear hi
  have hb : Blk ((w.alloc (.cells #[.int .i64 b0, .int .i64 b1] 31)).alloc (.cells #[.int .i64 0, .int .i64 0, .int .i64 0, .int .i64 0, .int .i64 0, .int .i64 0, .int .i64 0, .int .i64 0, .int .i64 0, .int .i64 0, .int .i64 0, .int .i64 0, .int .i64 0, .int .i64 0, .int .i64 0, .int .i64 0, .int .i64 0, .int .i64 0, .int .i64 0, .int .i64 0, .int .i64 0, .int .i64 0] 26)) w.heap.size 31 #[.int .i64 b0, .int .i64 b1] := Blk.alloc (Blk.new w 31 _) _
  have hb2 : Blk ((w.alloc (.cells #[.int .i64 b0, .int .i64 b1] 31)).alloc (.cells #[.int .i64 0, .int .i64 0, .int .i64 0, .int .i64 0, .int .i64 0, .int .i64 0, .int .i64 0, .int .i64 0, .int .i64 0, .int .i64 0, .int .i64 0, .int .i64 0, .int .i64 0, .int .i64 0, .int .i64 0, .int .i64 0, .int .i64 0, .int .i64 0, .int .i64 0, .int .i64 0, .int .i64 0, .int .i64 0] 26)) (w.heap.size + 1) 26 (trk []) := Blk.new1 w _ 26 _
  have B0 := below_al (below_al (Below.refl w.heap.size w) (.cells #[.int .i64 b0, .int .i64 b1] 31)) (.cells #[.int .i64 0, .int .i64 0, .int .i64 0, .int .i64 0, .int .i64 0, .int .i64 0, .int .i64 0, .int .i64 0, .int .i64 0, .int .i64 0, .int .i64 0, .int .i64 0, .int .i64 0, .int .i64 0, .int .i64 0, .int .i64 0, .int .i64 0, .int .i64 0, .int .i64 0, .int .i64 0, .int .i64 0, .int .i64 0] 26)
  go_enter Try.func4, Try.ntmps4
  go_upto_region 4 with (fail)
  generalize (w.alloc (Obj.cells #[Value.int IntKind.i64 b0, Value.int IntKind.i64 b1] 31)).alloc (Obj.cells #[Value.int IntKind.i64 0, Value.int IntKind.i64 0, Value.int IntKind.i64 0, Value.int IntKind.i64 0, Value.int IntKind.i64 0, Value.int IntKind.i64 0, Value.int IntKind.i64 0, Value.int IntKind.i64 0, Value.int IntKind.i64 0, Value.int IntKind.i64 0, Value.int IntKind.i64 0, Value.int IntKind.i64 0, Value.int IntKind.i64 0, Value.int IntKind.i64 0, Value.int IntKind.i64 0, Value.int IntKind.i64 0, Value.int IntKind.i64 0, Value.int IntKind.i64 0, Value.int IntKind.i64 0, Value.int IntKind.i64 0, Value.int IntKind.i64 0, Value.int IntKind.i64 0] 26) = W at *
  generalize hg : w.heap.size = g at hb hb2 ⊢
  have hgl : w.heap.size ≤ g := by omega
  go_loopw [9, 8] (fun i v wr => ∃ (k : Nat) (x : List Int), k ≤ n ∧ i = .int .i64 k ∧ okT x ∧ Blk wr g 31 #[.int .i64 b0, .int .i64 b1] ∧ Blk wr (g + 1) 26 (trk x) ∧ NInts wr v x ∧ FarB (g + 2) v ∧ Below w.heap.size w wr) (fun i _ _ => n - (intOf i).toNat)
  case atStart => exact ⟨0, [], by omega, rfl, okT_lit.1, hb, hb2, Or.inl ⟨rfl, rfl⟩, (fun ad n c h => by cases h), B0⟩
  case round =>
    clear hb hb2 B0
    obtain ⟨k, x, hk, rfl, hx, hblk, hblk2, hni, hfar, hbel⟩ := hrel
    by_cases hlt : k < n ∧ k < 100
    · obtain ⟨hlt, h100⟩ := hlt
      obtain ⟨ad, rfl, hcell⟩ := (HI.out.below hbel).at hlt
      generalize hy : xs.getD k 0 = y at hcell
      have k0 : (0 : Int) ≤ k := by omega
      go_upto_region 6 with (fail)
      have HP := Lib.hid (fun w => push_any x y w hx)
      have HR := Lib.hid (fun v w h B => rpush_any v x y w h hx B)
      have HO := Lib.hid (okT_pushA (s := y) hx)
      have hd : wr.drew.heap[g + 1]? = some (.cells (trk x) 26 (0, 0)) := hblk2
      have HD := Lib.hid hd
      have HG := Lib.hid hblk
      have HN := Lib.hid hni
      have HF := Lib.hid hfar
      generalize hq : pushA x y = q at *
      clear hd hblk hblk2 hni hfar hx hq
      go_cut [9] from 11 to 81 (fun v wx => v = .int .i64 k ∧ Blk wx g 31 #[.int .i64 b0, .int .i64 b1] ∧ Blk wx (g + 1) 26 (trk q) ∧ NInts wx u8 x ∧ Below w.heap.size w wx)
      case first =>
        refine wp_region_noPanic ?_
        refine wp_region_held_drew (S := (fun _ => True)) (by kernel_rfl) ?_ (fun hHeld => ?_)
        · exact trivial
        refine reg_take (i := 1) (oi := _) (v := ?_) rfl (by kernel_rfl) (by kernel_rfl) (by kernel_rfl) (fun _ _ _ h => h) (by rfl) ?_ (by assumption) ?_
        rotate_left
        · intro w hSw; (try dsimp only at hSw); go_simp; try with_reducible rfl
        (try simp only [Act.put, List.setIfInBounds_toArray, List.set_cons_zero, List.set_cons_succ])
        refine reg_take (i := 2) (oi := _) (v := ?_) rfl (by kernel_rfl) (by kernel_rfl) (by kernel_rfl) (fun _ _ _ h => h) (by rfl) ?_ (by assumption) ?_
        rotate_left
        · intro w hSw; (try dsimp only at hSw); go_simp; try with_reducible rfl
        (try simp only [Act.put, List.setIfInBounds_toArray, List.set_cons_zero, List.set_cons_succ])
        refine reg_take (i := 3) (oi := _) (v := ?_) rfl (by kernel_rfl) (by kernel_rfl) (by kernel_rfl) (fun _ _ _ h => h) (by rfl) ?_ (by assumption) ?_
        rotate_left
        · intro w hSw; (try dsimp only at hSw); go_simp; try with_reducible rfl
        (try simp only [Act.put, List.setIfInBounds_toArray, List.set_cons_zero, List.set_cons_succ])
        refine wpAnyH_ready (rs := [0, 4]) (by kernel_rfl) (by simp) ?_
        refine reg_each (o := _) rfl (fun K hK => ?_) ?_
        · skip
          rw [if_pos (by rfl)]
          refine wp_load_row 26 _ rfl (g + 1) rfl 26 (trk x) (0, 0) _ HD.out Try.underlying26 rfl (trk_info _) ?_
          refine hK.out _ _ ?_ (fun hHeld2 => ?_)
          · exact trivial
          clear hK K hHeld
          have hHeld := hHeld2
          clear hHeld2
          (try simp only [Act.put, List.setIfInBounds_toArray, List.set_cons_zero, List.set_cons_succ])
          refine wpAnyH_ready (rs := [4]) (by kernel_rfl) (by simp) ?_
          refine reg_each (o := _) rfl (fun K hK => ?_) ?_
          · skip
            go_simp
            refine hK.out _ _ ?_ (fun hHeld2 => ?_)
            · exact trivial
            clear hK K hHeld
            have hHeld := hHeld2
            clear hHeld2
            (try simp only [Act.put, List.setIfInBounds_toArray, List.set_cons_zero, List.set_cons_succ])
            refine wpAnyH_ready (rs := [5]) (by kernel_rfl) (by simp) ?_
            refine reg_each (o := _) rfl (fun K hK => ?_) ?_
            · skip
              go_simp
              refine (HP.out _).mono ?_
              rintro e w2 ⟨rfl, hb2⟩
              go_wp2_with (fail)
              refine hK.out _ _ ?_ (fun hHeld2 => ?_)
              · exact trivial
              clear hK K hHeld
              have hHeld := hHeld2
              clear hHeld2
              (try simp only [Act.put, List.setIfInBounds_toArray, List.set_cons_zero, List.set_cons_succ])
              refine wpAnyH_ready (rs := [6]) (by kernel_rfl) (by simp) ?_
              refine reg_each (o := _) rfl (fun K hK => ?_) ?_
              · skip
                rw [if_pos (by rfl)]
                refine wp_store_row 26 _ _ rfl (g + 1) (trk q) rfl rfl 26 (trk x) (Blk.below (t := 26) (cs := trk x) HD.out hb2) (trk_info _) (by rw [trk_size, trk_size]) (trk_one _) ?_
                refine hK.out _ _ ?_ (fun hHeld2 => ?_)
                · exact trivial
                clear hK K hHeld
                have hHeld := hHeld2
                clear hHeld2
                (try simp only [Act.put, List.setIfInBounds_toArray, List.set_cons_zero, List.set_cons_succ])
                refine wpAnyH_done (by kernel_rfl) ?_ _
                refine NoPanic.normal ?_
                go_wp2_with (fail)
                go_meet
                exact ⟨rfl, (setRow_other _ (g + 1) g _ (by omega)).trans (HG.out.drew.below hb2), blk_setRow (Blk.below (t := 26) (cs := trk x) HD.out hb2), NInts.setRow (HN.out.drewb.below hb2) (fun ad n c h => by have := HF.out ad n c h; omega) _, below_setRow (below_trans (below_drewN hbel 1) hb2) (by omega) _⟩
              exact AllReadyH.nil
            exact AllReadyH.nil
          exact AllReadyH.nil
        refine reg_each (o := _) rfl (fun K hK => ?_) ?_
        · skip
          go_simp
          refine hK.out _ _ ?_ (fun hHeld2 => ?_)
          · exact trivial
          clear hK K hHeld
          have hHeld := hHeld2
          clear hHeld2
          (try simp only [Act.put, List.setIfInBounds_toArray, List.set_cons_zero, List.set_cons_succ])
          refine wpAnyH_ready (rs := [0]) (by kernel_rfl) (by simp) ?_
          refine reg_each (o := _) rfl (fun K hK => ?_) ?_
          · skip
            rw [if_pos (by rfl)]
            refine wp_load_row 26 _ rfl (g + 1) rfl 26 (trk x) (0, 0) _ HD.out Try.underlying26 rfl (trk_info _) ?_
            refine hK.out _ _ ?_ (fun hHeld2 => ?_)
            · exact trivial
            clear hK K hHeld
            have hHeld := hHeld2
            clear hHeld2
            (try simp only [Act.put, List.setIfInBounds_toArray, List.set_cons_zero, List.set_cons_succ])
            refine wpAnyH_ready (rs := [5]) (by kernel_rfl) (by simp) ?_
            refine reg_each (o := _) rfl (fun K hK => ?_) ?_
            · skip
              go_simp
              refine (HP.out _).mono ?_
              rintro e w2 ⟨rfl, hb2⟩
              go_wp2_with (fail)
              refine hK.out _ _ ?_ (fun hHeld2 => ?_)
              · exact trivial
              clear hK K hHeld
              have hHeld := hHeld2
              clear hHeld2
              (try simp only [Act.put, List.setIfInBounds_toArray, List.set_cons_zero, List.set_cons_succ])
              refine wpAnyH_ready (rs := [6]) (by kernel_rfl) (by simp) ?_
              refine reg_each (o := _) rfl (fun K hK => ?_) ?_
              · skip
                rw [if_pos (by rfl)]
                refine wp_store_row 26 _ _ rfl (g + 1) (trk q) rfl rfl 26 (trk x) (Blk.below (t := 26) (cs := trk x) HD.out hb2) (trk_info _) (by rw [trk_size, trk_size]) (trk_one _) ?_
                refine hK.out _ _ ?_ (fun hHeld2 => ?_)
                · exact trivial
                clear hK K hHeld
                have hHeld := hHeld2
                clear hHeld2
                (try simp only [Act.put, List.setIfInBounds_toArray, List.set_cons_zero, List.set_cons_succ])
                refine wpAnyH_done (by kernel_rfl) ?_ _
                refine NoPanic.normal ?_
                go_wp2_with (fail)
                go_meet
                exact ⟨rfl, (setRow_other _ (g + 1) g _ (by omega)).trans (HG.out.drew.below hb2), blk_setRow (Blk.below (t := 26) (cs := trk x) HD.out hb2), NInts.setRow (HN.out.drewb.below hb2) (fun ad n c h => by have := HF.out ad n c h; omega) _, below_setRow (below_trans (below_drewN hbel 1) hb2) (by omega) _⟩
              exact AllReadyH.nil
            exact AllReadyH.nil
          exact AllReadyH.nil
        exact AllReadyH.nil
      case rest =>
        clear HD HG HN HP hbel
        obtain ⟨rfl, b1', b2', hni, hbel⟩ := hcut
        have hsz := b2'.lt
        obtain ⟨ad', e', hcell⟩ := (HI.out.below hbel).at hlt
        cases e'
        rw [hy] at hcell
        go_wp2_with (fail)
        refine (HR.out _ _ hni (g + 2) HF.out hsz).mono ?_
        rintro e w2 ⟨⟨v', rfl, hni2, hfar2⟩, hb2⟩
        obtain ⟨A2, cap2, rfl⟩ := hni2.form
        have d1 := b1'.below hb2
        have d2 := b2'.below hb2
        have hbel2 := below_trans hbel hb2
        clear hb2 hbel b1' b2' hni HR HF hsz hcell
        have HC := Lib.hid (fun w => check_ok q w HO.out)
        have HG := Lib.hid (fun w => change_walk q w HO.out)
        have HF := Lib.hid (fun w => flaps_walk q did b0 b1 w HO.out)
        have RC := Lib.hid (fun v w h => rchange_any v q w h HO.out.1)
        have RF := Lib.hid (fun v w h => rflaps_walk v q did b0 b1 w h HO.out)
        have c0 : w2.cell? ⟨g + 1, 0, none⟩ = some (.int .i64 q.length) := by rw [d2.cell, trk_get _ _ (by omega)]; rfl
        have ce0 : w2.cell? ⟨g, 0, none⟩ = some (.int .i64 b0) := by rw [d1.cell]; rfl
        have ce1 : w2.cell? ⟨g, 1, none⟩ = some (.int .i64 b1) := by rw [d1.cell]; rfl
        have z1 := d1.lt
        have z2 := d2.lt
        generalize hm : q.length = m at *
        generalize chgF q = c at *
        generalize flapsF q did b0 b1 = f at *
        have e1 : ((m : Int) != m) = false := by simp
        have e2 : (c != c) = false := by simp
        have e3 : (f != f) = false := by simp
        go_upto_region 8 with (fail)
        refine wp_region_noPanic ?_
        refine wp_region_held_drew (S := (fun w' => w'.heap[g + 1]? = some (.cells (trk q) 26 (0, 0)) ∧ w'.cell? ⟨g + 1, 0, none⟩ = some (.int .i64 m) ∧ w'.cell? ⟨g, 0, none⟩ = some (.int .i64 b0) ∧ w'.cell? ⟨g, 1, none⟩ = some (.int .i64 b1) ∧ g < w'.heap.size ∧ g + 1 < w'.heap.size ∧ Blk w' g 31 #[.int .i64 b0, .int .i64 b1] ∧ NInts w' (.slice A2 m cap2) q ∧ Below w.heap.size w w')) (by kernel_rfl) ?_ (fun hHeld => ?_)
        · exact rs_drew ⟨d2, c0, ce0, ce1, z1, z2, d1, hni2, hbel2⟩
        refine reg_take (i := 0) (oi := _) (v := ?_) rfl (by kernel_rfl) (by kernel_rfl) (by kernel_rfl) (fun _ _ _ h => h) (by rfl) ?_ (by assumption) ?_
        rotate_left
        · intro w hSw; (try dsimp only at hSw); go_simp; try with_reducible rfl
        (try simp only [Act.put, List.setIfInBounds_toArray, List.set_cons_zero, List.set_cons_succ])
        refine reg_take (i := 1) (oi := _) (v := ?_) rfl (by kernel_rfl) (by kernel_rfl) (by kernel_rfl) (fun _ _ _ h => h) (by rfl) ?_ (by assumption) ?_
        rotate_left
        · intro w hSw; (try dsimp only at hSw); go_simp; try with_reducible rfl
        (try simp only [Act.put, List.setIfInBounds_toArray, List.set_cons_zero, List.set_cons_succ])
        refine reg_take (i := 2) (oi := _) (v := ?_) rfl (by kernel_rfl) (by kernel_rfl) (by kernel_rfl) (fun _ _ _ h => h) (by rfl) ?_ (by assumption) ?_
        rotate_left
        · intro w hSw; (try dsimp only at hSw); go_simp; try with_reducible rfl
        (try simp only [Act.put, List.setIfInBounds_toArray, List.set_cons_zero, List.set_cons_succ])
        refine reg_take (i := 3) (oi := _) (v := ?_) rfl (by kernel_rfl) (by kernel_rfl) (by kernel_rfl) (fun _ _ _ h => h) (by rfl) ?_ (by assumption) ?_
        rotate_left
        · intro w hSw; (try dsimp only at hSw); go_simp; try with_reducible rfl
        (try simp only [Act.put, List.setIfInBounds_toArray, List.set_cons_zero, List.set_cons_succ])
        refine reg_take (i := 4) (oi := _) (v := ?_) rfl (by kernel_rfl) (by kernel_rfl) (by kernel_rfl) (fun _ _ _ h => h) (by rfl) ?_ (by assumption) ?_
        rotate_left
        · intro w hSw; (try dsimp only at hSw); go_simp; try with_reducible rfl
        (try simp only [Act.put, List.setIfInBounds_toArray, List.set_cons_zero, List.set_cons_succ])
        refine reg_take (i := 5) (oi := _) (v := ?_) rfl (by kernel_rfl) (by kernel_rfl) (by kernel_rfl) (fun _ _ _ h => h) (by rfl) ?_ (by assumption) ?_
        rotate_left
        · intro w hSw; (try dsimp only at hSw); go_simp; try with_reducible rfl
        (try simp only [Act.put, List.setIfInBounds_toArray, List.set_cons_zero, List.set_cons_succ])
        refine wpAnyH_ready (rs := [6]) (by kernel_rfl) (by simp) ?_
        refine reg_each (o := _) rfl (fun K hK => ?_) ?_
        · skip
          rw [if_pos (by rfl)]
          refine wp_load_row 26 _ rfl (g + 1) rfl 26 (trk q) (0, 0) _ hHeld.1 Try.underlying26 rfl (trk_info _) ?_
          refine hK.out _ _ ?_ (fun hHeld2 => ?_)
          · exact hHeld
          clear hK K hHeld
          have hHeld := hHeld2
          clear hHeld2
          (try simp only [Act.put, List.setIfInBounds_toArray, List.set_cons_zero, List.set_cons_succ])
          refine wpAnyH_ready (rs := [7]) (by kernel_rfl) (by simp) ?_
          refine reg_each (o := _) rfl (fun K hK => ?_) ?_
          · skip
            go_simp
            refine (HC.out _).mono ?_
            rintro e w4 ⟨rfl, hb4⟩
            go_wp2_with (fail)
            refine hK.out _ _ ?_ (fun hHeld2 => ?_)
            · exact rs_below hHeld hb4
            clear hK K hHeld
            have hHeld := hHeld2
            clear hHeld2
            (try simp only [Act.put, List.setIfInBounds_toArray, List.set_cons_zero, List.set_cons_succ])
            refine reg_take (i := 8) (oi := _) (v := ?_) rfl (by kernel_rfl) (by kernel_rfl) (by kernel_rfl) (fun _ _ _ h => h) (by rfl) ?_ (by assumption) ?_
            rotate_left
            · intro w hSw; (try dsimp only at hSw); go_simp; try with_reducible rfl
            (try simp only [Act.put, List.setIfInBounds_toArray, List.set_cons_zero, List.set_cons_succ])
            refine reg_take (i := 9) (oi := _) (v := ?_) rfl (by kernel_rfl) (by kernel_rfl) (by kernel_rfl) (fun _ _ _ h => h) (by rfl) ?_ (by assumption) ?_
            rotate_left
            · intro w hSw; (try dsimp only at hSw); go_simp; try with_reducible rfl
            (try simp only [Act.put, List.setIfInBounds_toArray, List.set_cons_zero, List.set_cons_succ])
            refine reg_take (i := 10) (oi := _) (v := ?_) rfl (by kernel_rfl) (by kernel_rfl) (by kernel_rfl) (fun _ _ _ h => h) (by rfl) ?_ (by assumption) ?_
            rotate_left
            · intro w hSw; (try dsimp only at hSw); go_simp; try with_reducible rfl
            (try simp only [Act.put, List.setIfInBounds_toArray, List.set_cons_zero, List.set_cons_succ])
            refine reg_take (i := 13) (oi := _) (v := ?_) rfl (by kernel_rfl) (by kernel_rfl) (by kernel_rfl) (fun _ _ _ h => h) (by rfl) ?_ (by assumption) ?_
            rotate_left
            · intro w hSw; (try dsimp only at hSw); go_simp; try with_reducible rfl
            (try simp only [Act.put, List.setIfInBounds_toArray, List.set_cons_zero, List.set_cons_succ])
            refine wpAnyH_ready (rs := [11]) (by kernel_rfl) (by simp) ?_
            refine reg_each (o := _) rfl (fun K hK => ?_) ?_
            · skip
              rw [if_pos (by rfl)]
              refine wp_load_row 26 _ rfl (g + 1) rfl 26 (trk q) (0, 0) _ hHeld.1 Try.underlying26 rfl (trk_info _) ?_
              refine hK.out _ _ ?_ (fun hHeld2 => ?_)
              · exact hHeld
              clear hK K hHeld
              have hHeld := hHeld2
              clear hHeld2
              (try simp only [Act.put, List.setIfInBounds_toArray, List.set_cons_zero, List.set_cons_succ])
              refine wpAnyH_ready (rs := [12]) (by kernel_rfl) (by simp) ?_
              refine reg_each (o := _) rfl (fun K hK => ?_) ?_
              · skip
                go_simp
                refine (HG.out _).mono ?_
                rintro e w4 ⟨rfl, hb4⟩
                go_wp2_with (fail)
                refine hK.out _ _ ?_ (fun hHeld2 => ?_)
                · exact rs_below hHeld hb4
                clear hK K hHeld
                have hHeld := hHeld2
                clear hHeld2
                (try simp only [Act.put, List.setIfInBounds_toArray, List.set_cons_zero, List.set_cons_succ])
                refine wpAnyH_ready (rs := [14]) (by kernel_rfl) (by simp) ?_
                refine reg_each (o := _) rfl (fun K hK => ?_) ?_
                · skip
                  go_simp
                  refine (RC.out _ _ (show NInts _ (.slice A2 m cap2) q from hHeld.2.2.2.2.2.2.2.1)).mono ?_
                  rintro e w4 ⟨rfl, hb4⟩
                  go_wp2_with (fail)
                  refine hK.out _ _ ?_ (fun hHeld2 => ?_)
                  · exact rs_below hHeld hb4
                  clear hK K hHeld
                  have hHeld := hHeld2
                  clear hHeld2
                  (try simp only [Act.put, List.setIfInBounds_toArray, List.set_cons_zero, List.set_cons_succ])
                  refine reg_take (i := 15) (oi := _) (v := ?_) rfl (by kernel_rfl) (by kernel_rfl) (by kernel_rfl) (fun _ _ _ h => h) (by rfl) ?_ (by assumption) ?_
                  rotate_left
                  · intro w hSw; (try dsimp only at hSw); go_simp; try with_reducible rfl
                  (try simp only [Act.put, List.setIfInBounds_toArray, List.set_cons_zero, List.set_cons_succ])
                  refine reg_take (i := 16) (oi := _) (v := ?_) rfl (by kernel_rfl) (by kernel_rfl) (by kernel_rfl) (fun _ _ _ h => h) (by rfl) ?_ (by assumption) ?_
                  rotate_left
                  · intro w hSw; (try dsimp only at hSw); go_simp; try with_reducible rfl
                  (try simp only [Act.put, List.setIfInBounds_toArray, List.set_cons_zero, List.set_cons_succ])
                  refine reg_take (i := 17) (oi := _) (v := ?_) rfl (by kernel_rfl) (by kernel_rfl) (by kernel_rfl) (fun _ _ _ h => h) (by rfl) ?_ (by assumption) ?_
                  rotate_left
                  · intro w hSw; (try dsimp only at hSw); go_simp; try with_reducible rfl
                  (try simp only [Act.put, List.setIfInBounds_toArray, List.set_cons_zero, List.set_cons_succ])
                  refine reg_take (i := 19) (oi := _) (v := ?_) rfl (by kernel_rfl) (by kernel_rfl) (by kernel_rfl) (fun _ _ _ h => h) (by rfl) ?_ (by assumption) ?_
                  rotate_left
                  · intro w hSw; (try dsimp only at hSw); go_simp; try with_reducible rfl
                  (try simp only [Act.put, List.setIfInBounds_toArray, List.set_cons_zero, List.set_cons_succ])
                  refine reg_take (i := 20) (oi := _) (v := ?_) rfl (by kernel_rfl) (by kernel_rfl) (by kernel_rfl) (fun _ _ _ h => h) (by rfl) ?_ (by assumption) ?_
                  rotate_left
                  · intro w hSw; (try dsimp only at hSw); go_simp; try with_reducible rfl
                  (try simp only [Act.put, List.setIfInBounds_toArray, List.set_cons_zero, List.set_cons_succ])
                  refine reg_take (i := 21) (oi := _) (v := ?_) rfl (by kernel_rfl) (by kernel_rfl) (by kernel_rfl) (fun _ _ _ h => h) (by rfl) ?_ (by assumption) ?_
                  rotate_left
                  · intro w hSw; (try dsimp only at hSw); go_simp; try with_reducible rfl
                  (try simp only [Act.put, List.setIfInBounds_toArray, List.set_cons_zero, List.set_cons_succ])
                  refine reg_take (i := 22) (oi := _) (v := ?_) rfl (by kernel_rfl) (by kernel_rfl) (by kernel_rfl) (fun _ _ _ h => h) (by rfl) ?_ (by assumption) ?_
                  rotate_left
                  · intro w hSw; (try dsimp only at hSw); go_simp; try with_reducible rfl
                  (try simp only [Act.put, List.setIfInBounds_toArray, List.set_cons_zero, List.set_cons_succ])
                  refine reg_take (i := 23) (oi := _) (v := ?_) rfl (by kernel_rfl) (by kernel_rfl) (by kernel_rfl) (fun _ _ _ h => h) (by rfl) ?_ (by assumption) ?_
                  rotate_left
                  · intro w hSw; (try dsimp only at hSw); go_simp; try with_reducible rfl
                  (try simp only [Act.put, List.setIfInBounds_toArray, List.set_cons_zero, List.set_cons_succ])
                  refine reg_take (i := 25) (oi := _) (v := ?_) rfl (by kernel_rfl) (by kernel_rfl) (by kernel_rfl) (fun _ _ _ h => h) (by rfl) ?_ (by assumption) ?_
                  rotate_left
                  · intro w hSw; (try dsimp only at hSw); go_simp; try with_reducible rfl
                  (try simp only [Act.put, List.setIfInBounds_toArray, List.set_cons_zero, List.set_cons_succ])
                  refine reg_take (i := 26) (oi := _) (v := ?_) rfl (by kernel_rfl) (by kernel_rfl) (by kernel_rfl) (fun _ _ _ h => h) (by rfl) ?_ (by assumption) ?_
                  rotate_left
                  · intro w hSw; (try dsimp only at hSw); go_simp; try with_reducible rfl
                  (try simp only [Act.put, List.setIfInBounds_toArray, List.set_cons_zero, List.set_cons_succ])
                  refine reg_take (i := 27) (oi := _) (v := ?_) rfl (by kernel_rfl) (by kernel_rfl) (by kernel_rfl) (fun _ _ _ h => h) (by rfl) ?_ (by assumption) ?_
                  rotate_left
                  · intro w hSw; (try dsimp only at hSw); go_simp; try with_reducible rfl
                  (try simp only [Act.put, List.setIfInBounds_toArray, List.set_cons_zero, List.set_cons_succ])
                  refine reg_take (i := 28) (oi := _) (v := ?_) rfl (by kernel_rfl) (by kernel_rfl) (by kernel_rfl) (fun _ _ _ h => h) (by rfl) ?_ (by assumption) ?_
                  rotate_left
                  · intro w hSw; (try dsimp only at hSw); go_simp; try with_reducible rfl
                  (try simp only [Act.put, List.setIfInBounds_toArray, List.set_cons_zero, List.set_cons_succ])
                  refine reg_take (i := 29) (oi := _) (v := ?_) rfl (by kernel_rfl) (by kernel_rfl) (by kernel_rfl) (fun _ _ _ h => h) (by rfl) ?_ (by assumption) ?_
                  rotate_left
                  · intro w hSw; (try dsimp only at hSw); go_simp; try with_reducible rfl
                  (try simp only [Act.put, List.setIfInBounds_toArray, List.set_cons_zero, List.set_cons_succ])
                  refine reg_take (i := 30) (oi := _) (v := ?_) rfl (by kernel_rfl) (by kernel_rfl) (by kernel_rfl) (fun _ _ _ h => h) (by rfl) ?_ (by assumption) ?_
                  rotate_left
                  · intro w hSw; (try dsimp only at hSw); go_simp; try with_reducible rfl
                  (try simp only [Act.put, List.setIfInBounds_toArray, List.set_cons_zero, List.set_cons_succ])
                  refine wpAnyH_ready (rs := [18]) (by kernel_rfl) (by simp) ?_
                  refine reg_each (o := _) rfl (fun K hK => ?_) ?_
                  · skip
                    rw [if_pos (by rfl)]
                    refine wp_load_row 26 _ rfl (g + 1) rfl 26 (trk q) (0, 0) _ hHeld.1 Try.underlying26 rfl (trk_info _) ?_
                    refine hK.out _ _ ?_ (fun hHeld2 => ?_)
                    · exact hHeld
                    clear hK K hHeld
                    have hHeld := hHeld2
                    clear hHeld2
                    (try simp only [Act.put, List.setIfInBounds_toArray, List.set_cons_zero, List.set_cons_succ])
                    refine wpAnyH_ready (rs := [24]) (by kernel_rfl) (by simp) ?_
                    refine reg_each (o := _) rfl (fun K hK => ?_) ?_
                    · skip
                      go_simp
                      refine (HF.out _).mono ?_
                      rintro e w4 ⟨rfl, hb4⟩
                      go_wp2_with (fail)
                      refine hK.out _ _ ?_ (fun hHeld2 => ?_)
                      · exact rs_below hHeld hb4
                      clear hK K hHeld
                      have hHeld := hHeld2
                      clear hHeld2
                      (try simp only [Act.put, List.setIfInBounds_toArray, List.set_cons_zero, List.set_cons_succ])
                      refine wpAnyH_ready (rs := [31]) (by kernel_rfl) (by simp) ?_
                      refine reg_each (o := _) rfl (fun K hK => ?_) ?_
                      · skip
                        go_simp
                        refine (RF.out _ _ (show NInts _ (.slice A2 m cap2) q from hHeld.2.2.2.2.2.2.2.1)).mono ?_
                        rintro e w4 ⟨rfl, hb4⟩
                        go_wp2_with (fail)
                        refine hK.out _ _ ?_ (fun hHeld2 => ?_)
                        · exact rs_below hHeld hb4
                        clear hK K hHeld
                        have hHeld := hHeld2
                        clear hHeld2
                        (try simp only [Act.put, List.setIfInBounds_toArray, List.set_cons_zero, List.set_cons_succ])
                        refine reg_take (i := 32) (oi := _) (v := ?_) rfl (by kernel_rfl) (by kernel_rfl) (by kernel_rfl) (fun _ _ _ h => h) (by rfl) ?_ (by assumption) ?_
                        rotate_left
                        · intro w hSw; (try dsimp only at hSw); go_simp; try with_reducible rfl
                        (try simp only [Act.put, List.setIfInBounds_toArray, List.set_cons_zero, List.set_cons_succ])
                        refine reg_take (i := 33) (oi := _) (v := ?_) rfl (by kernel_rfl) (by kernel_rfl) (by kernel_rfl) (fun _ _ _ h => h) (by rfl) ?_ (by assumption) ?_
                        rotate_left
                        · intro w hSw; (try dsimp only at hSw); go_simp; try with_reducible rfl
                        (try simp only [Act.put, List.setIfInBounds_toArray, List.set_cons_zero, List.set_cons_succ])
                        refine wpAnyH_done (by kernel_rfl) ?_ _
                        refine NoPanic.normal ?_
                        go_wp2_with (fail)
                        have hfin : RS w g m b0 b1 q (.slice A2 m cap2) _ := hHeld
                        clear hHeld c0 ce0 ce1 d1 d2 z1 z2 hni2 hbel2
                        obtain ⟨d2, _, _, _, _, _, d1, hni2, hbel2⟩ := hfin
                        go_upto_region 11 with (fail)
                        go_loopw [10] (fun i wr3 => ∃ (j : Nat), j ≤ m ∧ i = .int .i64 j ∧ Blk wr3 g 31 #[.int .i64 b0, .int .i64 b1] ∧ Blk wr3 (g + 1) 26 (trk q) ∧ NInts wr3 (.slice A2 m cap2) q ∧ Below w.heap.size w wr3) (fun i _ => m - (intOf i).toNat)
                        case atStart => exact ⟨0, by omega, rfl, d1, d2, hni2, hbel2⟩
                        case round =>
                          clear d1 d2 hni2 hbel2
                          obtain ⟨j, hj, rfl, d1, d2, hni2, hbel2⟩ := hrel
                          by_cases hjm : j < m
                          · obtain ⟨ad2, rfl, hi2⟩ := hni2.at (by omega)
                            obtain ⟨_, he, _, hc2⟩ := hi2.2.2.2 (by omega)
                            cases he
                            have hj21 : j < 21 := by have := HO.out.1; omega
                            have f1 : wr.cell? (ad2.add j) = some (.int .i64 (q.getD j 0)) := hc2 j (by omega)
                            have f0 : wr.cell? ⟨g + 1, 1 + j, none⟩ = some (.int .i64 (q.getD j 0)) := by rw [d2.cell, trk_get _ _ (by omega), cell_pos]
                            have D1 := Lib.hid d1
                            have D2 := Lib.hid d2
                            have NI := Lib.hid hni2
                            clear d1 d2 hni2 hc2 hi2
                            generalize q.getD j 0 = u at *
                            have e4 : (u != u) = false := by simp
                            have j0 : (0 : Int) ≤ j := by omega
                            have j1 : (j : Int) < 21 := by omega
                            have j2 : (j : Int) < m := by omega
                            go_upto_region 13 with (fail)
                            go_quiet (fail)
                            clear f0 f1
                            go_wp2
                            go_roundw
                            case rel => exact ⟨j + 1, by omega, by go_num, D1.out.drewN _, D2.out.drewN _, NI.out.below (below_drewN (Below.refl _ _) _), below_drewN hbel2 _⟩
                            case measure => simp [intOf]; omega
                          · obtain rfl : j = m := by omega
                            go_wp2_with (fail)
                            go_roundw
                            case rel => exact ⟨k + 1, q, by omega, by go_num, HO.out, d1, d2, hni2, hfar2, hbel2⟩
                            case measure => simp [intOf]; omega
                      exact AllReadyH.nil
                    exact AllReadyH.nil
                  exact AllReadyH.nil
                exact AllReadyH.nil
              exact AllReadyH.nil
            exact AllReadyH.nil
          exact AllReadyH.nil
        exact AllReadyH.nil
    · have hlt' : ¬ k < n ∨ (k < n ∧ ¬ k < 100) := by omega
      rcases hlt' with h1 | ⟨h1, h2⟩
      all_goals
        go_wp2_with (fail)
        refine (sure_walk _).mono ?_
        rintro e w5 ⟨rfl, hb5⟩
        go_wp2
        go_ret
        exact ⟨rfl, below_trans hbel hb5⟩
end Go.Proofs.Ytndipldjkojofaa
