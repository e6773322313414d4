/- The law FlapNames, walked. -/
import Derived.Test.YtndipldjkojofaaAid
import Derived.Deep.CutRange
import Derived.Deep.CutBlock
namespace Go.Proofs.Ytndipldjkojofaa
open Go.RowKit
def nm (k s : Int) : Int := (s + k).tmod 4
theorem nm_bd {k s : Int} (k1 : 1 ≤ k) (s0 : 0 ≤ s) : 0 ≤ nm k s ∧ nm k s ≤ 3 := by
  unfold nm
  rw [Int.tmod_eq_emod_of_nonneg (by omega)]
  omega
theorem nm_inj {k s t : Int} (k1 : 1 ≤ k) (s0 : 0 ≤ s) (s3 : s ≤ 3) (t0 : 0 ≤ t) (t3 : t ≤ 3) (h : nm k s = nm k t) : s = t := by
  unfold nm at h
  rw [Int.tmod_eq_emod_of_nonneg (by omega), Int.tmod_eq_emod_of_nonneg (by omega)] at h
  omega
theorem nm_push (k s : Int) (x : List Int) : pushF (x.map (nm k)) (nm k s) = (pushF x s).map (nm k) := by
  unfold pushF
  rw [List.length_map]
  split <;> simp
theorem nm_get (k : Int) (x : List Int) (j : Nat) (h : j < x.length) : (x.map (nm k)).getD j 0 = nm k (x.getD j 0) := by simp [List.getD, h]
theorem nm_chgS (k : Int) (x : List Int) (k1 : 1 ≤ k) (hx : okT x) : ∀ j, j < x.length → chgS (x.map (nm k)) j = chgS x j := by
  intro j
  induction j with
  | zero => intro _; rfl
  | succ j ih =>
    intro hj
    rw [chgS, chgS, ih (by omega), nm_get k x (j + 1) hj, nm_get k x j (by omega), List.length_map]
    congr 1
    have a := hx.2 (j + 1)
    have b := hx.2 j
    by_cases h : x.getD (j + 1) 0 = x.getD j 0
    · rw [if_pos h, if_pos (by rw [h])]
    · rw [if_neg h, if_neg (fun e => h (nm_inj k1 a.1 a.2 b.1 b.2 e))]
theorem nm_chg (k : Int) (x : List Int) (k1 : 1 ≤ k) (hx : okT x) : chgF (x.map (nm k)) = chgF x := by
  unfold chgF
  rw [List.length_map]
  by_cases h : x.length = 0
  · rw [h]; rfl
  · exact nm_chgS k x k1 hx _ (by omega)
theorem nm_ok (k : Int) (x : List Int) (k1 : 1 ≤ k) (hx : okT x) : okT (x.map (nm k)) := by
  refine ⟨by rw [List.length_map]; exact hx.1, getD_ok fun v hv => ?_⟩
  obtain ⟨s, hs, rfl⟩ := List.mem_map.1 hv
  exact nm_bd k1 (okT_mem hx s hs).1
def S8 (w : World) (g : Nat) (m : Nat) (q q2 : List Int) (w' : World) : Prop := w'.heap[g]? = some (.cells (trk q) 26 (0, 0)) ∧ w'.heap[g + 1]? = some (.cells (trk q2) 26 (0, 0)) ∧ w'.cell? ⟨g, 0, none⟩ = some (.int .i64 m) ∧ w'.cell? ⟨g + 1, 0, none⟩ = some (.int .i64 m) ∧ g < w'.heap.size ∧ g + 1 < w'.heap.size ∧ Below w.heap.size w w'
theorem s8_drew {w w' : World} {g m : Nat} {q q2 : List Int} (h : S8 w g m q q2 w') : S8 w g m q q2 w'.drew := ⟨h.1, h.2.1, h.2.2.1, h.2.2.2.1, h.2.2.2.2.1, h.2.2.2.2.2.1, below_drewN h.2.2.2.2.2.2 1⟩
theorem s8_below {w w1 w2 : World} {g m : Nat} {q q2 : List Int} (h : S8 w g m q q2 w1) (k : Below w1.heap.size w1 w2) : S8 w g m q q2 w2 := by
  obtain ⟨a1, a2, a3, a4, a5, a6, a7⟩ := h
  have e1 : Blk w1 g 26 (trk q) := a1
  have e2 : Blk w1 (g + 1) 26 (trk q2) := a2
  have f1 := e1.below k
  have f2 := e2.below k
  refine ⟨f1, f2, ?_, ?_, by have := k.size; omega, by have := k.size; omega, below_trans a7 k⟩
  · rw [f1.cell, ← e1.cell]; exact a3
  · rw [f2.cell, ← e2.cell]; exact a4
set_option linter.unusedSimpArgs false in
set_option linter.unusedVariables false in
set_option maxRecDepth 100000 in
set_option maxHeartbeats 4000000 in
theorem names_walk (A : Option Addr) (n cap : Nat) (xs : List Int) (st : Int) (w : World) (hi : Ints w A n xs) :
    Calls Try.prog 3 #[.slice A n cap, .int .i64 st] w fun e w' => e = .returned (.bool true) ∧ Below w.heap.size w w' := by
  have hn := hi.2.1
  have HI := Lib.hid hi; clear hi
  have hb : Blk ((w.alloc (.cells #[.int .i64 0, .int .i64 0, .int .i64 0, .int .i64 0, .int .i64 0, .int .i64 0, .int .i64 0, .int .i64 0, .int .i64 0, .int .i64 0, .int .i64 0, .int .i64 0, .int .i64 0, .int .i64 0, .int .i64 0, .int .i64 0, .int .i64 0, .int .i64 0, .int .i64 0, .int .i64 0, .int .i64 0, .int .i64 0] 26)).alloc (.cells #[.int .i64 0, .int .i64 0, .int .i64 0, .int .i64 0, .int .i64 0, .int .i64 0, .int .i64 0, .int .i64 0, .int .i64 0, .int .i64 0, .int .i64 0, .int .i64 0, .int .i64 0, .int .i64 0, .int .i64 0, .int .i64 0, .int .i64 0, .int .i64 0, .int .i64 0, .int .i64 0, .int .i64 0, .int .i64 0] 26)) w.heap.size 26 (trk []) := Blk.alloc (Blk.new w 26 _) _
  have hb2 : Blk ((w.alloc (.cells #[.int .i64 0, .int .i64 0, .int .i64 0, .int .i64 0, .int .i64 0, .int .i64 0, .int .i64 0, .int .i64 0, .int .i64 0, .int .i64 0, .int .i64 0, .int .i64 0, .int .i64 0, .int .i64 0, .int .i64 0, .int .i64 0, .int .i64 0, .int .i64 0, .int .i64 0, .int .i64 0, .int .i64 0, .int .i64 0] 26)).alloc (.cells #[.int .i64 0, .int .i64 0, .int .i64 0, .int .i64 0, .int .i64 0, .int .i64 0, .int .i64 0, .int .i64 0, .int .i64 0, .int .i64 0, .int .i64 0, .int .i64 0, .int .i64 0, .int .i64 0, .int .i64 0, .int .i64 0, .int .i64 0, .int .i64 0, .int .i64 0, .int .i64 0, .int .i64 0, .int .i64 0] 26)) (w.heap.size + 1) 26 (trk []) := Blk.new1 w _ 26 _
  have B0 := below_al (below_al (Below.refl w.heap.size w) (.cells #[.int .i64 0, .int .i64 0, .int .i64 0, .int .i64 0, .int .i64 0, .int .i64 0, .int .i64 0, .int .i64 0, .int .i64 0, .int .i64 0, .int .i64 0, .int .i64 0, .int .i64 0, .int .i64 0, .int .i64 0, .int .i64 0, .int .i64 0, .int .i64 0, .int .i64 0, .int .i64 0, .int .i64 0, .int .i64 0] 26)) (.cells #[.int .i64 0, .int .i64 0, .int .i64 0, .int .i64 0, .int .i64 0, .int .i64 0, .int .i64 0, .int .i64 0, .int .i64 0, .int .i64 0, .int .i64 0, .int .i64 0, .int .i64 0, .int .i64 0, .int .i64 0, .int .i64 0, .int .i64 0, .int .i64 0, .int .i64 0, .int .i64 0, .int .i64 0, .int .i64 0] 26)
  obtain ⟨q1, q2⟩ := u64m_bd st 3 (by decide)
  have hk0 : IntKind.i64.wrap ((IntKind.u64.wrap st).tmod 3) = (IntKind.u64.wrap st).tmod 3 := by rw [IntKind.wrap_i64]; omega
  have hk : IntKind.i64.wrap (1 + (IntKind.u64.wrap st).tmod 3) = 1 + (IntKind.u64.wrap st).tmod 3 := by rw [IntKind.wrap_i64]; omega
  go_enter Try.func3, Try.ntmps3
  go_upto_region 4 with (fail)
  generalize (w.alloc (Obj.cells #[Value.int IntKind.i64 0, Value.int IntKind.i64 0, Value.int IntKind.i64 0, Value.int IntKind.i64 0, Value.int IntKind.i64 0, Value.int IntKind.i64 0, Value.int IntKind.i64 0, Value.int IntKind.i64 0, Value.int IntKind.i64 0, Value.int IntKind.i64 0, Value.int IntKind.i64 0, Value.int IntKind.i64 0, Value.int IntKind.i64 0, Value.int IntKind.i64 0, Value.int IntKind.i64 0, Value.int IntKind.i64 0, Value.int IntKind.i64 0, Value.int IntKind.i64 0, Value.int IntKind.i64 0, Value.int IntKind.i64 0, Value.int IntKind.i64 0, Value.int IntKind.i64 0] 26)).alloc (Obj.cells #[Value.int IntKind.i64 0, Value.int IntKind.i64 0, Value.int IntKind.i64 0, Value.int IntKind.i64 0, Value.int IntKind.i64 0, Value.int IntKind.i64 0, Value.int IntKind.i64 0, Value.int IntKind.i64 0, Value.int IntKind.i64 0, Value.int IntKind.i64 0, Value.int IntKind.i64 0, Value.int IntKind.i64 0, Value.int IntKind.i64 0, Value.int IntKind.i64 0, Value.int IntKind.i64 0, Value.int IntKind.i64 0, Value.int IntKind.i64 0, Value.int IntKind.i64 0, Value.int IntKind.i64 0, Value.int IntKind.i64 0, Value.int IntKind.i64 0, Value.int IntKind.i64 0] 26) = W at *
  generalize hg : w.heap.size = g at hb hb2 ⊢
  have hgl : w.heap.size ≤ g := by omega
  generalize hkk : 1 + (IntKind.u64.wrap st).tmod 3 = kk at *
  have k1 : 1 ≤ kk := by omega
  have k3 : kk ≤ 3 := by omega
  clear hkk q1 q2 hk0 hk
  go_loopw [8] (fun i wr => ∃ (k : Nat) (x : List Int), k ≤ n ∧ i = .int .i64 k ∧ okT x ∧ Blk wr g 26 (trk x) ∧ Blk wr (g + 1) 26 (trk (x.map (nm kk))) ∧ Below w.heap.size w wr) (fun i _ => n - (intOf i).toNat)
  case atStart => exact ⟨0, [], by omega, rfl, okT_lit.1, hb, hb2, B0⟩
  case round =>
    clear hb hb2 B0
    obtain ⟨k, x, hk, rfl, hx, hblk, hblk2, hbel⟩ := hrel
    by_cases hlt : k < n ∧ k < 50
    · obtain ⟨hlt, h50⟩ := hlt
      obtain ⟨ad, rfl, hcell⟩ := (HI.out.below hbel).at hlt
      generalize xs.getD k 0 = y at hcell
      obtain ⟨q1, q2⟩ := u64m_bd y 4 (by decide)
      have k0 : (0 : Int) ≤ k := by omega
      have hwy : IntKind.i64.wrap ((IntKind.u64.wrap y).tmod 4) = (IntKind.u64.wrap y).tmod 4 := by rw [IntKind.wrap_i64]; omega
      go_upto_region 7 with (fail)
      generalize hs : (IntKind.u64.wrap y).tmod 4 = s at *
      have s3 : s ≤ 3 := by omega
      clear hs hwy q2
      have hws : IntKind.i64.wrap (s + kk) = s + kk := by rw [IntKind.wrap_i64]; omega
      have HX := Lib.hid hx
      have HP := Lib.hid (fun w => push_walk x s w hx q1 s3)
      have HO := Lib.hid (okT_push hx q1 s3)
      have hm := nm_bd k1 q1
      have HQ := Lib.hid (fun w => push_walk (x.map (nm kk)) (nm kk s) w (nm_ok kk x k1 hx) hm.1 hm.2)
      rw [nm_push] at HQ
      have HO2 := Lib.hid (nm_ok kk _ k1 HO.out)
      have HC := Lib.hid (fun w => change_walk (pushF x s) w HO.out)
      have HC2 := Lib.hid (fun w => change_walk ((pushF x s).map (nm kk)) w HO2.out)
      rw [nm_chg kk _ k1 HO.out] at HC2
      have hl : ((pushF x s).map (nm kk)).length = (pushF x s).length := List.length_map _
      have HL := Lib.hid hl
      have hl0 : (x.map (nm kk)).length = x.length := List.length_map _
      generalize hq : pushF x s = q at *
      clear hl hx hm
      have hd : wr.drew.heap[g]? = some (.cells (trk x) 26 (0, 0)) := hblk
      have HD := Lib.hid hd
      have hd2 : wr.drew.heap[g + 1]? = some (.cells (trk (x.map (nm kk))) 26 (0, 0)) := hblk2
      have HD2 := Lib.hid hd2
      clear hd hd2 hblk hblk2 hl0
      go_cut [9] from 15 to 52 (fun v wx => v = .int .i64 s ∧ Blk wx g 26 (trk q) ∧ Blk wx (g + 1) 26 (trk (q.map (nm kk))) ∧ Below w.heap.size w wx)
      case first =>
        refine wp_region_noPanic ?_
        refine wp_region_held_drew (S := (fun _ => True)) (by kernel_rfl) ?_ (fun hHeld => ?_)
        · exact trivial
        refine reg_take (i := 1) (oi := _) (v := ?_) rfl (by kernel_rfl) (by kernel_rfl) (by kernel_rfl) (fun _ _ _ h => h) (by rfl) ?_ (by assumption) ?_
        rotate_left
        · intro w hSw; (try dsimp only at hSw); go_simp; try with_reducible rfl
        (try simp only [Act.put, List.setIfInBounds_toArray, List.set_cons_zero, List.set_cons_succ])
        refine reg_take (i := 4) (oi := _) (v := ?_) rfl (by kernel_rfl) (by kernel_rfl) (by kernel_rfl) (fun _ _ _ h => h) (by rfl) ?_ (by assumption) ?_
        rotate_left
        · intro w hSw; (try dsimp only at hSw); go_simp; try with_reducible rfl
        (try simp only [Act.put, List.setIfInBounds_toArray, List.set_cons_zero, List.set_cons_succ])
        refine reg_take (i := 5) (oi := _) (v := ?_) rfl (by kernel_rfl) (by kernel_rfl) (by kernel_rfl) (fun _ _ _ h => h) (by rfl) ?_ (by assumption) ?_
        rotate_left
        · intro w hSw; (try dsimp only at hSw); go_simp; try with_reducible rfl
        (try simp only [Act.put, List.setIfInBounds_toArray, List.set_cons_zero, List.set_cons_succ])
        refine reg_take (i := 6) (oi := _) (v := ?_) rfl (by kernel_rfl) (by kernel_rfl) (by kernel_rfl) (fun _ _ _ h => h) (by rfl) ?_ (by assumption) ?_
        rotate_left
        · intro w hSw; (try dsimp only at hSw); go_simp; try with_reducible rfl
        (try simp only [Act.put, List.setIfInBounds_toArray, List.set_cons_zero, List.set_cons_succ])
        refine reg_take (i := 7) (oi := _) (v := ?_) rfl (by kernel_rfl) (by kernel_rfl) (by kernel_rfl) (fun _ _ _ h => h) (by rfl) ?_ (by assumption) ?_
        rotate_left
        · intro w hSw; (try dsimp only at hSw); go_simp; try with_reducible rfl
        (try simp only [Act.put, List.setIfInBounds_toArray, List.set_cons_zero, List.set_cons_succ])
        refine wpAnyH_ready (rs := [0, 3]) (by kernel_rfl) (by simp) ?_
        refine reg_each (o := _) rfl (fun K hK => ?_) ?_
        · skip
          rw [if_pos (by rfl)]
          refine wp_load_row 26 _ rfl (g) rfl 26 (trk x) (0, 0) _ HD.out Try.underlying26 rfl (trk_info _) ?_
          refine hK.out _ _ ?_ (fun hHeld2 => ?_)
          · exact trivial
          clear hK K hHeld
          have hHeld := hHeld2
          clear hHeld2
          (try simp only [Act.put, List.setIfInBounds_toArray, List.set_cons_zero, List.set_cons_succ])
          refine wpAnyH_ready (rs := [2, 3]) (by kernel_rfl) (by simp) ?_
          refine reg_each (o := _) rfl (fun K hK => ?_) ?_
          · skip
            go_simp
            refine (HP.out _).mono ?_
            rintro e w2 ⟨rfl, hb2⟩
            go_wp2_with (fail)
            refine hK.out _ _ ?_ (fun hHeld2 => ?_)
            · exact trivial
            clear hK K hHeld
            have hHeld := hHeld2
            clear hHeld2
            (try simp only [Act.put, List.setIfInBounds_toArray, List.set_cons_zero, List.set_cons_succ])
            refine wpAnyH_ready (rs := [3]) (by kernel_rfl) (by simp) ?_
            refine reg_each (o := _) rfl (fun K hK => ?_) ?_
            · skip
              rw [if_pos (by rfl)]
              first | refine wp_load_row 26 _ rfl (g + 1) rfl 26 (trk (x.map (nm kk))) (0, 0) _ HD2.out Try.underlying26 rfl (trk_info _) ?_ | refine wp_load_row 26 _ rfl (g + 1) rfl 26 (trk (x.map (nm kk))) (0, 0) _ (Blk.below (t := 26) (cs := trk (x.map (nm kk))) HD2.out hb2) Try.underlying26 rfl (trk_info _) ?_
              refine hK.out _ _ ?_ (fun hHeld2 => ?_)
              · exact trivial
              clear hK K hHeld
              have hHeld := hHeld2
              clear hHeld2
              (try simp only [Act.put, List.setIfInBounds_toArray, List.set_cons_zero, List.set_cons_succ])
              refine wpAnyH_ready (rs := [8]) (by kernel_rfl) (by simp) ?_
              refine reg_each (o := _) rfl (fun K hK => ?_) ?_
              · skip
                go_simp
                refine (HQ.out _).mono ?_
                rintro e w3 ⟨rfl, hb3⟩
                go_wp2_with (fail)
                have H9 := Lib.hid (show w3.heap[g]? = some (.cells (trk x) 26 (0, 0)) from Blk.below (t := 26) (cs := trk x) (Blk.below (t := 26) (cs := trk x) HD.out hb2) hb3)
                have H10 := Lib.hid (show Blk w3 (g + 1) 26 (trk (x.map (nm kk))) from Blk.below (t := 26) (cs := trk (x.map (nm kk))) (Blk.below (t := 26) (cs := trk (x.map (nm kk))) HD2.out hb2) hb3)
                refine hK.out _ _ ?_ (fun hHeld2 => ?_)
                · exact trivial
                clear hK K hHeld
                have hHeld := hHeld2
                clear hHeld2
                (try simp only [Act.put, List.setIfInBounds_toArray, List.set_cons_zero, List.set_cons_succ])
                refine wpAnyH_ready (rs := [9]) (by kernel_rfl) (by simp) ?_
                refine reg_each (o := _) rfl (fun K hK => ?_) ?_
                · skip
                  rw [if_pos (by rfl)]
                  refine wp_store_row 26 _ _ rfl g (trk q) rfl rfl 26 (trk x) H9.out (trk_info _) (by rw [trk_size, trk_size]) (trk_one _) ?_
                  have H11 := Lib.hid (show (w3.setRow g (trk q)).heap[g + 1]? = some (.cells (trk (x.map (nm kk))) 26 (0, 0)) from (setRow_other w3 g (g + 1) _ (by omega)).trans H10.out)
                  refine hK.out _ _ ?_ (fun hHeld2 => ?_)
                  · exact trivial
                  clear hK K hHeld
                  have hHeld := hHeld2
                  clear hHeld2
                  (try simp only [Act.put, List.setIfInBounds_toArray, List.set_cons_zero, List.set_cons_succ])
                  refine wpAnyH_ready (rs := [10]) (by kernel_rfl) (by simp) ?_
                  refine reg_each (o := _) rfl (fun K hK => ?_) ?_
                  · skip
                    rw [if_pos (by rfl)]
                    refine wp_store_row 26 _ _ rfl (g + 1) (trk (q.map (nm kk))) rfl rfl 26 (trk (x.map (nm kk))) H11.out (trk_info _) (by rw [trk_size, trk_size]) (trk_one _) ?_
                    refine hK.out _ _ ?_ (fun hHeld2 => ?_)
                    · exact trivial
                    clear hK K hHeld
                    have hHeld := hHeld2
                    clear hHeld2
                    (try simp only [Act.put, List.setIfInBounds_toArray, List.set_cons_zero, List.set_cons_succ])
                    refine wpAnyH_done (by kernel_rfl) ?_ _
                    refine NoPanic.normal ?_
                    go_wp2_with (fail)
                    go_meet
                    exact ⟨rfl, (setRow_other _ (g + 1) g _ (by omega)).trans (blk_setRow H9.out), blk_setRow H11.out, below_setRow (below_setRow (below_trans (below_trans (below_drewN hbel 1) hb2) hb3) hgl _) (by omega) _⟩
                  exact AllReadyH.nil
                exact AllReadyH.nil
              exact AllReadyH.nil
            exact AllReadyH.nil
          refine reg_each (o := _) rfl (fun K hK => ?_) ?_
          · skip
            rw [if_pos (by rfl)]
            first | refine wp_load_row 26 _ rfl (g + 1) rfl 26 (trk (x.map (nm kk))) (0, 0) _ HD2.out Try.underlying26 rfl (trk_info _) ?_ | refine wp_load_row 26 _ rfl (g + 1) rfl 26 (trk (x.map (nm kk))) (0, 0) _ (Blk.below (t := 26) (cs := trk (x.map (nm kk))) HD2.out hb2) Try.underlying26 rfl (trk_info _) ?_
            refine hK.out _ _ ?_ (fun hHeld2 => ?_)
            · exact trivial
            clear hK K hHeld
            have hHeld := hHeld2
            clear hHeld2
            (try simp only [Act.put, List.setIfInBounds_toArray, List.set_cons_zero, List.set_cons_succ])
            refine wpAnyH_ready (rs := [2]) (by kernel_rfl) (by simp) ?_
            refine reg_each (o := _) rfl (fun K hK => ?_) ?_
            · skip
              go_simp
              refine (HP.out _).mono ?_
              rintro e w2 ⟨rfl, hb2⟩
              go_wp2_with (fail)
              refine hK.out _ _ ?_ (fun hHeld2 => ?_)
              · exact trivial
              clear hK K hHeld
              have hHeld := hHeld2
              clear hHeld2
              (try simp only [Act.put, List.setIfInBounds_toArray, List.set_cons_zero, List.set_cons_succ])
              refine wpAnyH_ready (rs := [8]) (by kernel_rfl) (by simp) ?_
              refine reg_each (o := _) rfl (fun K hK => ?_) ?_
              · skip
                go_simp
                refine (HQ.out _).mono ?_
                rintro e w3 ⟨rfl, hb3⟩
                go_wp2_with (fail)
                have H9 := Lib.hid (show w3.heap[g]? = some (.cells (trk x) 26 (0, 0)) from Blk.below (t := 26) (cs := trk x) (Blk.below (t := 26) (cs := trk x) HD.out hb2) hb3)
                have H10 := Lib.hid (show Blk w3 (g + 1) 26 (trk (x.map (nm kk))) from Blk.below (t := 26) (cs := trk (x.map (nm kk))) (Blk.below (t := 26) (cs := trk (x.map (nm kk))) HD2.out hb2) hb3)
                refine hK.out _ _ ?_ (fun hHeld2 => ?_)
                · exact trivial
                clear hK K hHeld
                have hHeld := hHeld2
                clear hHeld2
                (try simp only [Act.put, List.setIfInBounds_toArray, List.set_cons_zero, List.set_cons_succ])
                refine wpAnyH_ready (rs := [9]) (by kernel_rfl) (by simp) ?_
                refine reg_each (o := _) rfl (fun K hK => ?_) ?_
                · skip
                  rw [if_pos (by rfl)]
                  refine wp_store_row 26 _ _ rfl g (trk q) rfl rfl 26 (trk x) H9.out (trk_info _) (by rw [trk_size, trk_size]) (trk_one _) ?_
                  have H11 := Lib.hid (show (w3.setRow g (trk q)).heap[g + 1]? = some (.cells (trk (x.map (nm kk))) 26 (0, 0)) from (setRow_other w3 g (g + 1) _ (by omega)).trans H10.out)
                  refine hK.out _ _ ?_ (fun hHeld2 => ?_)
                  · exact trivial
                  clear hK K hHeld
                  have hHeld := hHeld2
                  clear hHeld2
                  (try simp only [Act.put, List.setIfInBounds_toArray, List.set_cons_zero, List.set_cons_succ])
                  refine wpAnyH_ready (rs := [10]) (by kernel_rfl) (by simp) ?_
                  refine reg_each (o := _) rfl (fun K hK => ?_) ?_
                  · skip
                    rw [if_pos (by rfl)]
                    refine wp_store_row 26 _ _ rfl (g + 1) (trk (q.map (nm kk))) rfl rfl 26 (trk (x.map (nm kk))) H11.out (trk_info _) (by rw [trk_size, trk_size]) (trk_one _) ?_
                    refine hK.out _ _ ?_ (fun hHeld2 => ?_)
                    · exact trivial
                    clear hK K hHeld
                    have hHeld := hHeld2
                    clear hHeld2
                    (try simp only [Act.put, List.setIfInBounds_toArray, List.set_cons_zero, List.set_cons_succ])
                    refine wpAnyH_done (by kernel_rfl) ?_ _
                    refine NoPanic.normal ?_
                    go_wp2_with (fail)
                    go_meet
                    exact ⟨rfl, (setRow_other _ (g + 1) g _ (by omega)).trans (blk_setRow H9.out), blk_setRow H11.out, below_setRow (below_setRow (below_trans (below_trans (below_drewN hbel 1) hb2) hb3) hgl _) (by omega) _⟩
                  exact AllReadyH.nil
                exact AllReadyH.nil
              exact AllReadyH.nil
            exact AllReadyH.nil
          exact AllReadyH.nil
        refine reg_each (o := _) rfl (fun K hK => ?_) ?_
        · skip
          rw [if_pos (by rfl)]
          first | refine wp_load_row 26 _ rfl (g + 1) rfl 26 (trk (x.map (nm kk))) (0, 0) _ HD2.out Try.underlying26 rfl (trk_info _) ?_ | refine wp_load_row 26 _ rfl (g + 1) rfl 26 (trk (x.map (nm kk))) (0, 0) _ (Blk.below (t := 26) (cs := trk (x.map (nm kk))) HD2.out hb2) Try.underlying26 rfl (trk_info _) ?_
          refine hK.out _ _ ?_ (fun hHeld2 => ?_)
          · exact trivial
          clear hK K hHeld
          have hHeld := hHeld2
          clear hHeld2
          (try simp only [Act.put, List.setIfInBounds_toArray, List.set_cons_zero, List.set_cons_succ])
          refine wpAnyH_ready (rs := [0]) (by kernel_rfl) (by simp) ?_
          refine reg_each (o := _) rfl (fun K hK => ?_) ?_
          · skip
            rw [if_pos (by rfl)]
            refine wp_load_row 26 _ rfl (g) rfl 26 (trk x) (0, 0) _ HD.out Try.underlying26 rfl (trk_info _) ?_
            refine hK.out _ _ ?_ (fun hHeld2 => ?_)
            · exact trivial
            clear hK K hHeld
            have hHeld := hHeld2
            clear hHeld2
            (try simp only [Act.put, List.setIfInBounds_toArray, List.set_cons_zero, List.set_cons_succ])
            refine wpAnyH_ready (rs := [2]) (by kernel_rfl) (by simp) ?_
            refine reg_each (o := _) rfl (fun K hK => ?_) ?_
            · skip
              go_simp
              refine (HP.out _).mono ?_
              rintro e w2 ⟨rfl, hb2⟩
              go_wp2_with (fail)
              refine hK.out _ _ ?_ (fun hHeld2 => ?_)
              · exact trivial
              clear hK K hHeld
              have hHeld := hHeld2
              clear hHeld2
              (try simp only [Act.put, List.setIfInBounds_toArray, List.set_cons_zero, List.set_cons_succ])
              refine wpAnyH_ready (rs := [8]) (by kernel_rfl) (by simp) ?_
              refine reg_each (o := _) rfl (fun K hK => ?_) ?_
              · skip
                go_simp
                refine (HQ.out _).mono ?_
                rintro e w3 ⟨rfl, hb3⟩
                go_wp2_with (fail)
                have H9 := Lib.hid (show w3.heap[g]? = some (.cells (trk x) 26 (0, 0)) from Blk.below (t := 26) (cs := trk x) (Blk.below (t := 26) (cs := trk x) HD.out hb2) hb3)
                have H10 := Lib.hid (show Blk w3 (g + 1) 26 (trk (x.map (nm kk))) from Blk.below (t := 26) (cs := trk (x.map (nm kk))) (Blk.below (t := 26) (cs := trk (x.map (nm kk))) HD2.out hb2) hb3)
                refine hK.out _ _ ?_ (fun hHeld2 => ?_)
                · exact trivial
                clear hK K hHeld
                have hHeld := hHeld2
                clear hHeld2
                (try simp only [Act.put, List.setIfInBounds_toArray, List.set_cons_zero, List.set_cons_succ])
                refine wpAnyH_ready (rs := [9]) (by kernel_rfl) (by simp) ?_
                refine reg_each (o := _) rfl (fun K hK => ?_) ?_
                · skip
                  rw [if_pos (by rfl)]
                  refine wp_store_row 26 _ _ rfl g (trk q) rfl rfl 26 (trk x) H9.out (trk_info _) (by rw [trk_size, trk_size]) (trk_one _) ?_
                  have H11 := Lib.hid (show (w3.setRow g (trk q)).heap[g + 1]? = some (.cells (trk (x.map (nm kk))) 26 (0, 0)) from (setRow_other w3 g (g + 1) _ (by omega)).trans H10.out)
                  refine hK.out _ _ ?_ (fun hHeld2 => ?_)
                  · exact trivial
                  clear hK K hHeld
                  have hHeld := hHeld2
                  clear hHeld2
                  (try simp only [Act.put, List.setIfInBounds_toArray, List.set_cons_zero, List.set_cons_succ])
                  refine wpAnyH_ready (rs := [10]) (by kernel_rfl) (by simp) ?_
                  refine reg_each (o := _) rfl (fun K hK => ?_) ?_
                  · skip
                    rw [if_pos (by rfl)]
                    refine wp_store_row 26 _ _ rfl (g + 1) (trk (q.map (nm kk))) rfl rfl 26 (trk (x.map (nm kk))) H11.out (trk_info _) (by rw [trk_size, trk_size]) (trk_one _) ?_
                    refine hK.out _ _ ?_ (fun hHeld2 => ?_)
                    · exact trivial
                    clear hK K hHeld
                    have hHeld := hHeld2
                    clear hHeld2
                    (try simp only [Act.put, List.setIfInBounds_toArray, List.set_cons_zero, List.set_cons_succ])
                    refine wpAnyH_done (by kernel_rfl) ?_ _
                    refine NoPanic.normal ?_
                    go_wp2_with (fail)
                    go_meet
                    exact ⟨rfl, (setRow_other _ (g + 1) g _ (by omega)).trans (blk_setRow H9.out), blk_setRow H11.out, below_setRow (below_setRow (below_trans (below_trans (below_drewN hbel 1) hb2) hb3) hgl _) (by omega) _⟩
                  exact AllReadyH.nil
                exact AllReadyH.nil
              exact AllReadyH.nil
            exact AllReadyH.nil
          exact AllReadyH.nil
        exact AllReadyH.nil
      case rest =>
        clear HD HD2 HP HQ hbel HX
        obtain ⟨rfl, b1, b2, hbel⟩ := hcut
        have b : (chgF q != chgF q) = false := by simp
        have z1 := b1.lt
        have z2 := b2.lt
        have c1 : wc.cell? ⟨g, 0, none⟩ = some (.int .i64 q.length) := by rw [b1.cell, trk_get _ _ (by omega)]; rfl
        have c2 : wc.cell? ⟨g + 1, 0, none⟩ = some (.int .i64 q.length) := by rw [b2.cell, trk_get _ _ (by omega), ← HL.out]; rfl
        generalize hm : q.length = m at *
        have b' : ((m : Int) != m) = false := by simp
        go_upto_region 8 with (fail)
        refine wp_region_noPanic ?_
        refine wp_region_held_drew (S := (fun w' => w'.heap[g]? = some (.cells (trk q) 26 (0, 0)) ∧ w'.heap[g + 1]? = some (.cells (trk (q.map (nm kk))) 26 (0, 0)) ∧ w'.cell? ⟨g, 0, none⟩ = some (.int .i64 m) ∧ w'.cell? ⟨g + 1, 0, none⟩ = some (.int .i64 m) ∧ g < w'.heap.size ∧ g + 1 < w'.heap.size ∧ Below w.heap.size w w')) (by kernel_rfl) ?_ (fun hHeld => ?_)
        · exact s8_drew ⟨b1, b2, c1, c2, z1, z2, hbel⟩
        refine wpAnyH_ready (rs := [0, 2]) (by kernel_rfl) (by simp) ?_
        refine reg_each (o := _) rfl (fun K hK => ?_) ?_
        · skip
          rw [if_pos (by rfl)]
          refine wp_load_row 26 _ rfl (g) rfl 26 (trk q) (0, 0) _ hHeld.1 Try.underlying26 rfl (trk_info _) ?_
          refine hK.out _ _ ?_ (fun hHeld2 => ?_)
          · exact hHeld
          clear hK K hHeld
          have hHeld := hHeld2
          clear hHeld2
          (try simp only [Act.put, List.setIfInBounds_toArray, List.set_cons_zero, List.set_cons_succ])
          refine wpAnyH_ready (rs := [1, 2]) (by kernel_rfl) (by simp) ?_
          refine reg_each (o := _) rfl (fun K hK => ?_) ?_
          · skip
            go_simp
            refine (HC.out _).mono ?_
            rintro e w4 ⟨rfl, hb4⟩
            go_wp2_with (fail)
            refine hK.out _ _ ?_ (fun hHeld2 => ?_)
            · exact s8_below hHeld hb4
            clear hK K hHeld
            have hHeld := hHeld2
            clear hHeld2
            (try simp only [Act.put, List.setIfInBounds_toArray, List.set_cons_zero, List.set_cons_succ])
            refine wpAnyH_ready (rs := [2]) (by kernel_rfl) (by simp) ?_
            refine reg_each (o := _) rfl (fun K hK => ?_) ?_
            · skip
              rw [if_pos (by rfl)]
              refine wp_load_row 26 _ rfl (g + 1) rfl 26 (trk (q.map (nm kk))) (0, 0) _ hHeld.2.1 Try.underlying26 rfl (trk_info _) ?_
              refine hK.out _ _ ?_ (fun hHeld2 => ?_)
              · exact hHeld
              clear hK K hHeld
              have hHeld := hHeld2
              clear hHeld2
              (try simp only [Act.put, List.setIfInBounds_toArray, List.set_cons_zero, List.set_cons_succ])
              refine wpAnyH_ready (rs := [3]) (by kernel_rfl) (by simp) ?_
              refine reg_each (o := _) rfl (fun K hK => ?_) ?_
              · skip
                go_simp
                refine (HC2.out _).mono ?_
                rintro e w4 ⟨rfl, hb4⟩
                go_wp2_with (fail)
                refine hK.out _ _ ?_ (fun hHeld2 => ?_)
                · exact s8_below hHeld hb4
                clear hK K hHeld
                have hHeld := hHeld2
                clear hHeld2
                (try simp only [Act.put, List.setIfInBounds_toArray, List.set_cons_zero, List.set_cons_succ])
                refine reg_take (i := 4) (oi := _) (v := ?_) rfl (by kernel_rfl) (by kernel_rfl) (by kernel_rfl) (fun _ _ _ h => h) (by rfl) ?_ (by assumption) ?_
                rotate_left
                · intro w hSw; (try dsimp only at hSw); go_simp; try with_reducible rfl
                (try simp only [Act.put, List.setIfInBounds_toArray, List.set_cons_zero, List.set_cons_succ])
                refine reg_take (i := 5) (oi := _) (v := ?_) rfl (by kernel_rfl) (by kernel_rfl) (by kernel_rfl) (fun _ _ _ h => h) (by rfl) ?_ (by assumption) ?_
                rotate_left
                · intro w hSw; (try dsimp only at hSw); go_simp; try with_reducible rfl
                (try simp only [Act.put, List.setIfInBounds_toArray, List.set_cons_zero, List.set_cons_succ])
                refine reg_take (i := 6) (oi := _) (v := ?_) rfl (by kernel_rfl) (by kernel_rfl) (by kernel_rfl) (fun _ _ _ h => h) (by rfl) ?_ (by assumption) ?_
                rotate_left
                · intro w hSw; (try dsimp only at hSw); go_simp; try with_reducible rfl
                (try simp only [Act.put, List.setIfInBounds_toArray, List.set_cons_zero, List.set_cons_succ])
                refine reg_take (i := 7) (oi := _) (v := ?_) rfl (by kernel_rfl) (by kernel_rfl) (by kernel_rfl) (fun _ _ _ h => h) (by rfl) ?_ (by assumption) ?_
                rotate_left
                · intro w hSw; (try dsimp only at hSw); go_simp; try with_reducible rfl
                (try simp only [Act.put, List.setIfInBounds_toArray, List.set_cons_zero, List.set_cons_succ])
                refine reg_take (i := 8) (oi := _) (v := ?_) rfl (by kernel_rfl) (by kernel_rfl) (by kernel_rfl) (fun _ _ _ h => h) (by rfl) ?_ (by assumption) ?_
                rotate_left
                · intro w hSw; (try dsimp only at hSw); go_simp; try with_reducible rfl
                (try simp only [Act.put, List.setIfInBounds_toArray, List.set_cons_zero, List.set_cons_succ])
                refine reg_take (i := 9) (oi := _) (v := ?_) rfl (by kernel_rfl) (by kernel_rfl) (by kernel_rfl) (fun _ _ _ h => h) (by rfl) ?_ (by assumption) ?_
                rotate_left
                · intro w hSw; (try dsimp only at hSw); go_simp; try with_reducible rfl
                (try simp only [Act.put, List.setIfInBounds_toArray, List.set_cons_zero, List.set_cons_succ])
                refine reg_take (i := 10) (oi := _) (v := ?_) rfl (by kernel_rfl) (by kernel_rfl) (by kernel_rfl) (fun _ _ _ h => h) (by rfl) ?_ (by assumption) ?_
                rotate_left
                · intro w hSw; (try dsimp only at hSw); go_simp; try with_reducible rfl
                (try simp only [Act.put, List.setIfInBounds_toArray, List.set_cons_zero, List.set_cons_succ])
                refine reg_take (i := 11) (oi := _) (v := ?_) rfl (by kernel_rfl) (by kernel_rfl) (by kernel_rfl) (fun _ _ _ h => h) (by rfl) ?_ (by assumption) ?_
                rotate_left
                · intro w hSw; (try dsimp only at hSw); go_simp; try with_reducible rfl
                (try simp only [Act.put, List.setIfInBounds_toArray, List.set_cons_zero, List.set_cons_succ])
                refine wpAnyH_done (by kernel_rfl) ?_ _
                refine NoPanic.normal ?_
                go_wp2_with (fail)
                go_roundw
                case rel => exact ⟨k + 1, q, by omega, by go_num, HO.out, (show S8 w g m q (q.map (nm kk)) _ from hHeld).1, (show S8 w g m q (q.map (nm kk)) _ from hHeld).2.1, (show S8 w g m q (q.map (nm kk)) _ from hHeld).2.2.2.2.2.2⟩
                case measure => simp [intOf]; omega
              exact AllReadyH.nil
            exact AllReadyH.nil
          refine reg_each (o := _) rfl (fun K hK => ?_) ?_
          · skip
            rw [if_pos (by rfl)]
            refine wp_load_row 26 _ rfl (g + 1) rfl 26 (trk (q.map (nm kk))) (0, 0) _ hHeld.2.1 Try.underlying26 rfl (trk_info _) ?_
            refine hK.out _ _ ?_ (fun hHeld2 => ?_)
            · exact hHeld
            clear hK K hHeld
            have hHeld := hHeld2
            clear hHeld2
            (try simp only [Act.put, List.setIfInBounds_toArray, List.set_cons_zero, List.set_cons_succ])
            refine wpAnyH_ready (rs := [1]) (by kernel_rfl) (by simp) ?_
            refine reg_each (o := _) rfl (fun K hK => ?_) ?_
            · skip
              go_simp
              refine (HC.out _).mono ?_
              rintro e w4 ⟨rfl, hb4⟩
              go_wp2_with (fail)
              refine hK.out _ _ ?_ (fun hHeld2 => ?_)
              · exact s8_below hHeld hb4
              clear hK K hHeld
              have hHeld := hHeld2
              clear hHeld2
              (try simp only [Act.put, List.setIfInBounds_toArray, List.set_cons_zero, List.set_cons_succ])
              refine wpAnyH_ready (rs := [3]) (by kernel_rfl) (by simp) ?_
              refine reg_each (o := _) rfl (fun K hK => ?_) ?_
              · skip
                go_simp
                refine (HC2.out _).mono ?_
                rintro e w4 ⟨rfl, hb4⟩
                go_wp2_with (fail)
                refine hK.out _ _ ?_ (fun hHeld2 => ?_)
                · exact s8_below hHeld hb4
                clear hK K hHeld
                have hHeld := hHeld2
                clear hHeld2
                (try simp only [Act.put, List.setIfInBounds_toArray, List.set_cons_zero, List.set_cons_succ])
                refine reg_take (i := 4) (oi := _) (v := ?_) rfl (by kernel_rfl) (by kernel_rfl) (by kernel_rfl) (fun _ _ _ h => h) (by rfl) ?_ (by assumption) ?_
                rotate_left
                · intro w hSw; (try dsimp only at hSw); go_simp; try with_reducible rfl
                (try simp only [Act.put, List.setIfInBounds_toArray, List.set_cons_zero, List.set_cons_succ])
                refine reg_take (i := 5) (oi := _) (v := ?_) rfl (by kernel_rfl) (by kernel_rfl) (by kernel_rfl) (fun _ _ _ h => h) (by rfl) ?_ (by assumption) ?_
                rotate_left
                · intro w hSw; (try dsimp only at hSw); go_simp; try with_reducible rfl
                (try simp only [Act.put, List.setIfInBounds_toArray, List.set_cons_zero, List.set_cons_succ])
                refine reg_take (i := 6) (oi := _) (v := ?_) rfl (by kernel_rfl) (by kernel_rfl) (by kernel_rfl) (fun _ _ _ h => h) (by rfl) ?_ (by assumption) ?_
                rotate_left
                · intro w hSw; (try dsimp only at hSw); go_simp; try with_reducible rfl
                (try simp only [Act.put, List.setIfInBounds_toArray, List.set_cons_zero, List.set_cons_succ])
                refine reg_take (i := 7) (oi := _) (v := ?_) rfl (by kernel_rfl) (by kernel_rfl) (by kernel_rfl) (fun _ _ _ h => h) (by rfl) ?_ (by assumption) ?_
                rotate_left
                · intro w hSw; (try dsimp only at hSw); go_simp; try with_reducible rfl
                (try simp only [Act.put, List.setIfInBounds_toArray, List.set_cons_zero, List.set_cons_succ])
                refine reg_take (i := 8) (oi := _) (v := ?_) rfl (by kernel_rfl) (by kernel_rfl) (by kernel_rfl) (fun _ _ _ h => h) (by rfl) ?_ (by assumption) ?_
                rotate_left
                · intro w hSw; (try dsimp only at hSw); go_simp; try with_reducible rfl
                (try simp only [Act.put, List.setIfInBounds_toArray, List.set_cons_zero, List.set_cons_succ])
                refine reg_take (i := 9) (oi := _) (v := ?_) rfl (by kernel_rfl) (by kernel_rfl) (by kernel_rfl) (fun _ _ _ h => h) (by rfl) ?_ (by assumption) ?_
                rotate_left
                · intro w hSw; (try dsimp only at hSw); go_simp; try with_reducible rfl
                (try simp only [Act.put, List.setIfInBounds_toArray, List.set_cons_zero, List.set_cons_succ])
                refine reg_take (i := 10) (oi := _) (v := ?_) rfl (by kernel_rfl) (by kernel_rfl) (by kernel_rfl) (fun _ _ _ h => h) (by rfl) ?_ (by assumption) ?_
                rotate_left
                · intro w hSw; (try dsimp only at hSw); go_simp; try with_reducible rfl
                (try simp only [Act.put, List.setIfInBounds_toArray, List.set_cons_zero, List.set_cons_succ])
                refine reg_take (i := 11) (oi := _) (v := ?_) rfl (by kernel_rfl) (by kernel_rfl) (by kernel_rfl) (fun _ _ _ h => h) (by rfl) ?_ (by assumption) ?_
                rotate_left
                · intro w hSw; (try dsimp only at hSw); go_simp; try with_reducible rfl
                (try simp only [Act.put, List.setIfInBounds_toArray, List.set_cons_zero, List.set_cons_succ])
                refine wpAnyH_done (by kernel_rfl) ?_ _
                refine NoPanic.normal ?_
                go_wp2_with (fail)
                go_roundw
                case rel => exact ⟨k + 1, q, by omega, by go_num, HO.out, (show S8 w g m q (q.map (nm kk)) _ from hHeld).1, (show S8 w g m q (q.map (nm kk)) _ from hHeld).2.1, (show S8 w g m q (q.map (nm kk)) _ from hHeld).2.2.2.2.2.2⟩
                case measure => simp [intOf]; omega
              exact AllReadyH.nil
            exact AllReadyH.nil
          exact AllReadyH.nil
        refine reg_each (o := _) rfl (fun K hK => ?_) ?_
        · skip
          rw [if_pos (by rfl)]
          refine wp_load_row 26 _ rfl (g + 1) rfl 26 (trk (q.map (nm kk))) (0, 0) _ hHeld.2.1 Try.underlying26 rfl (trk_info _) ?_
          refine hK.out _ _ ?_ (fun hHeld2 => ?_)
          · exact hHeld
          clear hK K hHeld
          have hHeld := hHeld2
          clear hHeld2
          (try simp only [Act.put, List.setIfInBounds_toArray, List.set_cons_zero, List.set_cons_succ])
          refine wpAnyH_ready (rs := [0]) (by kernel_rfl) (by simp) ?_
          refine reg_each (o := _) rfl (fun K hK => ?_) ?_
          · skip
            rw [if_pos (by rfl)]
            refine wp_load_row 26 _ rfl (g) rfl 26 (trk q) (0, 0) _ hHeld.1 Try.underlying26 rfl (trk_info _) ?_
            refine hK.out _ _ ?_ (fun hHeld2 => ?_)
            · exact hHeld
            clear hK K hHeld
            have hHeld := hHeld2
            clear hHeld2
            (try simp only [Act.put, List.setIfInBounds_toArray, List.set_cons_zero, List.set_cons_succ])
            refine wpAnyH_ready (rs := [1]) (by kernel_rfl) (by simp) ?_
            refine reg_each (o := _) rfl (fun K hK => ?_) ?_
            · skip
              go_simp
              refine (HC.out _).mono ?_
              rintro e w4 ⟨rfl, hb4⟩
              go_wp2_with (fail)
              refine hK.out _ _ ?_ (fun hHeld2 => ?_)
              · exact s8_below hHeld hb4
              clear hK K hHeld
              have hHeld := hHeld2
              clear hHeld2
              (try simp only [Act.put, List.setIfInBounds_toArray, List.set_cons_zero, List.set_cons_succ])
              refine wpAnyH_ready (rs := [3]) (by kernel_rfl) (by simp) ?_
              refine reg_each (o := _) rfl (fun K hK => ?_) ?_
              · skip
                go_simp
                refine (HC2.out _).mono ?_
                rintro e w4 ⟨rfl, hb4⟩
                go_wp2_with (fail)
                refine hK.out _ _ ?_ (fun hHeld2 => ?_)
                · exact s8_below hHeld hb4
                clear hK K hHeld
                have hHeld := hHeld2
                clear hHeld2
                (try simp only [Act.put, List.setIfInBounds_toArray, List.set_cons_zero, List.set_cons_succ])
                refine reg_take (i := 4) (oi := _) (v := ?_) rfl (by kernel_rfl) (by kernel_rfl) (by kernel_rfl) (fun _ _ _ h => h) (by rfl) ?_ (by assumption) ?_
                rotate_left
                · intro w hSw; (try dsimp only at hSw); go_simp; try with_reducible rfl
                (try simp only [Act.put, List.setIfInBounds_toArray, List.set_cons_zero, List.set_cons_succ])
                refine reg_take (i := 5) (oi := _) (v := ?_) rfl (by kernel_rfl) (by kernel_rfl) (by kernel_rfl) (fun _ _ _ h => h) (by rfl) ?_ (by assumption) ?_
                rotate_left
                · intro w hSw; (try dsimp only at hSw); go_simp; try with_reducible rfl
                (try simp only [Act.put, List.setIfInBounds_toArray, List.set_cons_zero, List.set_cons_succ])
                refine reg_take (i := 6) (oi := _) (v := ?_) rfl (by kernel_rfl) (by kernel_rfl) (by kernel_rfl) (fun _ _ _ h => h) (by rfl) ?_ (by assumption) ?_
                rotate_left
                · intro w hSw; (try dsimp only at hSw); go_simp; try with_reducible rfl
                (try simp only [Act.put, List.setIfInBounds_toArray, List.set_cons_zero, List.set_cons_succ])
                refine reg_take (i := 7) (oi := _) (v := ?_) rfl (by kernel_rfl) (by kernel_rfl) (by kernel_rfl) (fun _ _ _ h => h) (by rfl) ?_ (by assumption) ?_
                rotate_left
                · intro w hSw; (try dsimp only at hSw); go_simp; try with_reducible rfl
                (try simp only [Act.put, List.setIfInBounds_toArray, List.set_cons_zero, List.set_cons_succ])
                refine reg_take (i := 8) (oi := _) (v := ?_) rfl (by kernel_rfl) (by kernel_rfl) (by kernel_rfl) (fun _ _ _ h => h) (by rfl) ?_ (by assumption) ?_
                rotate_left
                · intro w hSw; (try dsimp only at hSw); go_simp; try with_reducible rfl
                (try simp only [Act.put, List.setIfInBounds_toArray, List.set_cons_zero, List.set_cons_succ])
                refine reg_take (i := 9) (oi := _) (v := ?_) rfl (by kernel_rfl) (by kernel_rfl) (by kernel_rfl) (fun _ _ _ h => h) (by rfl) ?_ (by assumption) ?_
                rotate_left
                · intro w hSw; (try dsimp only at hSw); go_simp; try with_reducible rfl
                (try simp only [Act.put, List.setIfInBounds_toArray, List.set_cons_zero, List.set_cons_succ])
                refine reg_take (i := 10) (oi := _) (v := ?_) rfl (by kernel_rfl) (by kernel_rfl) (by kernel_rfl) (fun _ _ _ h => h) (by rfl) ?_ (by assumption) ?_
                rotate_left
                · intro w hSw; (try dsimp only at hSw); go_simp; try with_reducible rfl
                (try simp only [Act.put, List.setIfInBounds_toArray, List.set_cons_zero, List.set_cons_succ])
                refine reg_take (i := 11) (oi := _) (v := ?_) rfl (by kernel_rfl) (by kernel_rfl) (by kernel_rfl) (fun _ _ _ h => h) (by rfl) ?_ (by assumption) ?_
                rotate_left
                · intro w hSw; (try dsimp only at hSw); go_simp; try with_reducible rfl
                (try simp only [Act.put, List.setIfInBounds_toArray, List.set_cons_zero, List.set_cons_succ])
                refine wpAnyH_done (by kernel_rfl) ?_ _
                refine NoPanic.normal ?_
                go_wp2_with (fail)
                go_roundw
                case rel => exact ⟨k + 1, q, by omega, by go_num, HO.out, (show S8 w g m q (q.map (nm kk)) _ from hHeld).1, (show S8 w g m q (q.map (nm kk)) _ from hHeld).2.1, (show S8 w g m q (q.map (nm kk)) _ from hHeld).2.2.2.2.2.2⟩
                case measure => simp [intOf]; omega
              exact AllReadyH.nil
            exact AllReadyH.nil
          exact AllReadyH.nil
        exact AllReadyH.nil
    · have hlt' : ¬ k < n ∨ (k < n ∧ ¬ k < 50) := by omega
      rcases hlt' with h1 | ⟨h1, h2⟩
      all_goals
        go_wp2_with (fail)
        refine (sure_walk _).mono ?_
        rintro e w5 ⟨rfl, hb5⟩
        go_wp2
        go_ret
        exact ⟨rfl, below_trans hbel hb5⟩
end Go.Proofs.Ytndipldjkojofaa
