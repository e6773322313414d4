/- The document's once, walked. -/
import Derived.Test.YtjffciejoahegaaDoorE6
namespace Go.Proofs.YtjffciejoahegaaDoor
open Go.RowKit
set_option linter.unusedVariables false
theorem own_below {w1 w2 : World} {n : Nat} {t : TypeId} {v : Value} {xs : List Value} {B : Nat} (h : w1.ownsRow B t 1 v n xs) (hb : Below w1.heap.size w1 w2) : w2.ownsRow B t 1 v n xs := by
  refine ⟨h.1, h.2.imp id ?_⟩
  rintro ⟨g, cap, cur, e, hB, hg, r⟩
  exact ⟨g, cap, cur, e, hB, (hb.block g (Array.getElem?_eq_some_iff.1 hg).1).trans hg, r⟩
set_option maxRecDepth 100000 in
set_option maxHeartbeats 8000000 in
theorem refonce_walk (u : Value) (l : List Int) (hl : l.length ≤ 65536) (w : World) (h : RdI w u w.heap.size l) : Calls Tryd.prog 23 #[u] w (OnceSaid l w) := by
  obtain ⟨A, cap, rfl⟩ := h.form
  have HI := Lib.hid h
  clear h
  go_enter Tryd.func23, Tryd.ntmps23
  go_upto_region 3 with (fail)
  go_loopw [3, 4, 5, 6] (fun v iv _ _ wr => ∃ (i : Nat) (LL : List Int), iv = .int .i64 i ∧ i ≤ l.length ∧ Up LL (l.take i) ∧ LL.length ≤ i ∧ wr.ownsRow w.heap.size 3 1 v LL.length (cellsI LL) ∧ Below w.heap.size w wr) (fun _ iv _ _ _ => l.length - (intOf iv).toNat)
  case atStart => exact ⟨0, [], rfl, Nat.zero_le _, ⟨List.Pairwise.nil, fun x => Iff.rfl⟩, Nat.le_refl _, World.ownsRow_nil _ _ _ _, Below.refl _ _⟩
  case round =>
    obtain ⟨W0, rfl⟩ : ∃ Z, Z = wr := ⟨_, rfl⟩
    obtain ⟨i, LL, rfl, hi, hU, hN, own, bel⟩ := hrel
    have i0 : (0 : Int) ≤ i := by omega
    have HU := Lib.hid hU
    have HN := Lib.hid (show LL.length ≤ i ∧ i ≤ 65536 from ⟨hN, by omega⟩)
    have BW := Lib.hid bel
    have HOW := Lib.hid own
    clear hU hN bel
    by_cases hlt : i < l.length
    · have hlt' : (i : Int) < (l.length : Int) := by omega
      rcases HI.out with ⟨_, _, _, _, hl0⟩ | ⟨g, o, cp, e, hg, hh⟩
      · rw [hl0] at hlt; simp at hlt
      cases e
      have hx0 := bel_cell BW.out (hh i hlt)
      have HS := Lib.hid (take_succ_getD hlt)
      generalize l.getD i 0 = x at *
      have HX := Lib.hid hx0
      clear hh hx0
      rcases own.2 with ⟨rfl, h0⟩ | ⟨g2, cap2, cur, rfl, hBg, hb, hn, hcm, hcs, ht⟩
      · have HN0 := Lib.hid h0
        have lz : (LL.length : Int) = 0 := by omega
        clear own h0
        go_upto_region 6 with (fail)
        go_loopw [5] (fun kv wi => ∃ k : Nat, kv = .int .i64 k ∧ k ≤ LL.length ∧ Below W0.heap.size W0 wi ∧ ∀ j, j < k → LL.getD j 0 < x) (fun kv _ => LL.length - (intOf kv).toNat)
        case atStart => exact ⟨0, rfl, Nat.zero_le _, Below.refl _ _, fun j hj => by omega⟩
        case round =>
          obtain ⟨k, rfl, hk, bel, hlt⟩ := hrel
          have k0 : (0 : Int) ≤ k := by omega
          have HLT := Lib.hid hlt
          have BEL := Lib.hid bel
          clear bel hlt
          obtain rfl : k = 0 := by have := HN0.out; omega
          have dk : decide ((0 : Int) < 0) = false := by decide
          go_upto_region 6 with (fail)
          go_quiet (fail)
          have B2 := Lib.hid (below_drewN BEL.out nq)
          clear BEL
          generalize wr.drewN nq = wn at *
          go_upto_region 8 with (fail)
          go_quiet (fail)
          have BA := below_drewN B2.out nq
          clear B2
          skip
          obtain ⟨WA, hWA⟩ : ∃ Z : World, Z = wn.drewN nq := ⟨_, rfl⟩
          rw [← hWA] at BA
          go_upto_region 10 with (fail)
          rw [← hWA]
          have X0 : WA.cell? ⟨g, o + i, none⟩ = some (.int .i64 x) := bel_cell BA HX.out
          have zp : g < WA.heap.size := World.block_lt_of_cell? _ _ X0
          have WHY := Lib.hid (show Up ([] ++ [x] ++ []) (l.take (i + 1)) from by rw [HS.out]; exact up_ins (k := 0) (by have := HU.out; rw [List.eq_nil_of_length_eq_zero HN0.out] at this; exact this) (Nat.le_refl _) (fun j hj => by omega) (fun h => by simp at h))
          have BAH := Lib.hid BA
          have HT := Lib.hid (show RdI WA (.slice none 0 0) WA.heap.size [] from .inl ⟨none, 0, rfl, fun _ => rfl, rfl⟩)
          have HD := HT
          have HK := Lib.hid (Nat.zero_le 1)
          clear BA hWA
          refine wp_region_noPanic ?_
          refine wp_region_held_drew (S := (fun w' => Below WA.heap.size WA w')) (by kernel_rfl) ?_ (fun hHeld => ?_)
          · exact below_drewN (Below.refl _ _) 1
          refine reg_take (i := 0) (oi := _) (v := ?_) rfl (by kernel_rfl) (by kernel_rfl) (by kernel_rfl) (fun _ _ _ h => h) (by rfl) ?_ (by assumption) ?_
          rotate_left
          · intro w hSw; (try dsimp only at hSw); replace X0 := bel_cell hSw X0; replace zp := Nat.lt_of_lt_of_le zp hSw.size; go_simp; try with_reducible rfl
          (try simp only [Act.put, List.setIfInBounds_toArray, List.set_cons_zero, List.set_cons_succ])
          refine reg_take (i := 1) (oi := _) (v := ?_) rfl (by kernel_rfl) (by kernel_rfl) (by kernel_rfl) (fun _ _ _ h => h) (by rfl) ?_ (by assumption) ?_
          rotate_left
          · intro w hSw; (try dsimp only at hSw); replace X0 := bel_cell hSw X0; replace zp := Nat.lt_of_lt_of_le zp hSw.size; go_simp; try with_reducible rfl
          (try simp only [Act.put, List.setIfInBounds_toArray, List.set_cons_zero, List.set_cons_succ])
          refine reg_take (i := 2) (oi := _) (v := ?_) rfl (by kernel_rfl) (by kernel_rfl) (by kernel_rfl) (fun _ _ _ h => h) (by rfl) ?_ (by assumption) ?_
          rotate_left
          · intro w hSw; (try dsimp only at hSw); replace X0 := bel_cell hSw X0; replace zp := Nat.lt_of_lt_of_le zp hSw.size; go_simp; try with_reducible rfl
          (try simp only [Act.put, List.setIfInBounds_toArray, List.set_cons_zero, List.set_cons_succ])
          refine reg_take (i := 3) (oi := _) (v := ?_) rfl (by kernel_rfl) (by kernel_rfl) (by kernel_rfl) (fun _ _ _ h => h) (by rfl) ?_ (by assumption) ?_
          rotate_left
          · intro w hSw; (try dsimp only at hSw); replace X0 := bel_cell hSw X0; replace zp := Nat.lt_of_lt_of_le zp hSw.size; go_simp; try with_reducible rfl
          (try simp only [Act.put, List.setIfInBounds_toArray, List.set_cons_zero, List.set_cons_succ])
          refine reg_take (i := 5) (oi := _) (v := ?_) rfl (by kernel_rfl) (by kernel_rfl) (by kernel_rfl) (fun _ _ _ h => h) (by rfl) ?_ (by assumption) ?_
          rotate_left
          · intro w hSw; (try dsimp only at hSw); replace X0 := bel_cell hSw X0; replace zp := Nat.lt_of_lt_of_le zp hSw.size; go_simp; try with_reducible rfl
          (try simp only [Act.put, List.setIfInBounds_toArray, List.set_cons_zero, List.set_cons_succ])
          refine reg_take (i := 6) (oi := _) (v := ?_) rfl (by kernel_rfl) (by kernel_rfl) (by kernel_rfl) (fun _ _ _ h => h) (by rfl) ?_ (by assumption) ?_
          rotate_left
          · intro w hSw; (try dsimp only at hSw); replace X0 := bel_cell hSw X0; replace zp := Nat.lt_of_lt_of_le zp hSw.size; go_simp; try with_reducible rfl
          (try simp only [Act.put, List.setIfInBounds_toArray, List.set_cons_zero, List.set_cons_succ])
          refine reg_take (i := 7) (oi := _) (v := ?_) rfl (by kernel_rfl) (by kernel_rfl) (by kernel_rfl) (fun _ _ _ h => h) (by rfl) ?_ (by assumption) ?_
          rotate_left
          · intro w hSw; (try dsimp only at hSw); replace X0 := bel_cell hSw X0; replace zp := Nat.lt_of_lt_of_le zp hSw.size; go_simp; try with_reducible rfl
          (try simp only [Act.put, List.setIfInBounds_toArray, List.set_cons_zero, List.set_cons_succ])
          refine reg_take (i := 8) (oi := _) (v := ?_) rfl (by kernel_rfl) (by kernel_rfl) (by kernel_rfl) (fun _ _ _ h => h) (by rfl) ?_ (by assumption) ?_
          rotate_left
          · intro w hSw; (try dsimp only at hSw); replace X0 := bel_cell hSw X0; replace zp := Nat.lt_of_lt_of_le zp hSw.size; go_simp; try with_reducible rfl
          (try simp only [Act.put, List.setIfInBounds_toArray, List.set_cons_zero, List.set_cons_succ])
          refine reg_take (i := 11) (oi := _) (v := ?_) rfl (by kernel_rfl) (by kernel_rfl) (by kernel_rfl) (fun _ _ _ h => h) (by rfl) ?_ (by assumption) ?_
          rotate_left
          · intro w hSw; (try dsimp only at hSw); replace X0 := bel_cell hSw X0; replace zp := Nat.lt_of_lt_of_le zp hSw.size; go_simp; try with_reducible rfl
          (try simp only [Act.put, List.setIfInBounds_toArray, List.set_cons_zero, List.set_cons_succ])
          refine reg_take (i := 12) (oi := _) (v := ?_) rfl (by kernel_rfl) (by kernel_rfl) (by kernel_rfl) (fun _ _ _ h => h) (by rfl) ?_ (by assumption) ?_
          rotate_left
          · intro w hSw; (try dsimp only at hSw); replace X0 := bel_cell hSw X0; replace zp := Nat.lt_of_lt_of_le zp hSw.size; go_simp; try with_reducible rfl
          (try simp only [Act.put, List.setIfInBounds_toArray, List.set_cons_zero, List.set_cons_succ])
          refine reg_take (i := 13) (oi := _) (v := ?_) rfl (by kernel_rfl) (by kernel_rfl) (by kernel_rfl) (fun _ _ _ h => h) (by rfl) ?_ (by assumption) ?_
          rotate_left
          · intro w hSw; (try dsimp only at hSw); replace X0 := bel_cell hSw X0; replace zp := Nat.lt_of_lt_of_le zp hSw.size; go_simp; try with_reducible rfl
          (try simp only [Act.put, List.setIfInBounds_toArray, List.set_cons_zero, List.set_cons_succ])
          refine wpAnyH_ready (rs := [4, 9]) (by kernel_rfl) (by simp) ?_
          refine reg_each (o := _) rfl (fun K hK => ?_) ?_
          · skip
            refine step_append_i rfl _ _ 41 Tryd.underlying41 (by rfl) WA.heap.size (.slice none 0 0) (.slice none 0 0) WA.heap.size [] [] (by rfl) (by first | rfl | go_simp) (World.ownsRow_nil _ _ _ _) (HT.out.below hHeld (Nat.le_refl _)) (by have := HN.out; have := HK.out; first | omega | (simp; done) | (simp; omega)) hHeld.size ?_
            intro v1 W1 own1 gr1 at1
            rw [List.nil_append] at own1
            refine hK.out _ _ ?_ (fun hHeld2 => ?_)
            · exact below_grown' hHeld gr1 (fun k e => by simp [Value.ownBlock] at e) hHeld.size
            clear hK K hHeld
            have hHeld := hHeld2
            clear hHeld2
            (try simp only [Act.put, List.setIfInBounds_toArray, List.set_cons_zero, List.set_cons_succ])
            refine wpAnyH_ready (rs := [9]) (by kernel_rfl) (by simp) ?_
            refine reg_each (o := _) rfl (fun K hK => ?_) ?_
            · skip
              go_simp
              refine hK.out _ _ ?_ (fun hHeld2 => ?_)
              · exact below_al hHeld _
              clear hK K hHeld
              have hHeld := hHeld2
              clear hHeld2
              (try simp only [Act.put, List.setIfInBounds_toArray, List.set_cons_zero, List.set_cons_succ])
              refine wpAnyH_ready (rs := [10]) (by kernel_rfl) (by simp) ?_
              refine reg_each (o := _) rfl (fun K hK => ?_) ?_
              · skip
                refine step_append_i rfl _ _ 41 Tryd.underlying41 (by rfl) WA.heap.size v1 (.slice (some ⟨W1.heap.size, 0, none⟩) 1 1) _ [] [x] (by rfl) (by first | rfl | go_simp) (own1.alloc _) (RdI.one (Blk.new W1 3 _) (Nat.le_refl _)) (by have := HN.out; have := HK.out; first | omega | (simp; done) | (simp; omega)) hHeld.size ?_
                intro v3 W3 own3 gr3 at3
                refine hK.out _ _ ?_ (fun hHeld2 => ?_)
                · exact below_grown' hHeld gr3 (fun k e => (own1.lt k e).1) hHeld.size
                clear hK K hHeld
                have hHeld := hHeld2
                clear hHeld2
                (try simp only [Act.put, List.setIfInBounds_toArray, List.set_cons_zero, List.set_cons_succ])
                refine wpAnyH_ready (rs := [14]) (by kernel_rfl) (by simp) ?_
                refine reg_each (o := _) rfl (fun K hK => ?_) ?_
                · skip
                  refine step_append_i rfl _ _ 41 Tryd.underlying41 (by rfl) WA.heap.size v3 (.slice none 0 0) WA.heap.size ([] ++ [x]) [] (by rfl) (by first | rfl | go_simp) own3 (HD.out.below hHeld (Nat.le_refl _)) (by have := HN.out; have := HK.out; first | omega | (simp; done) | (simp; omega)) hHeld.size ?_
                  intro v4 W4 own4 gr4 at4
                  refine hK.out _ _ ?_ (fun hHeld2 => ?_)
                  · exact below_grown' hHeld gr4 (fun k e => (own3.lt k e).1) hHeld.size
                  clear hK K hHeld
                  have hHeld := hHeld2
                  clear hHeld2
                  (try simp only [Act.put, List.setIfInBounds_toArray, List.set_cons_zero, List.set_cons_succ])
                  have O4 := Lib.hid own4
                  have B4 := Lib.hid hHeld
                  clear own1 own3 own4 gr1 gr3 gr4 at1 at3 at4
                  refine reg_take (i := 15) (oi := _) (v := ?_) rfl (by kernel_rfl) (by kernel_rfl) (by kernel_rfl) (fun _ _ _ h => h) (by rfl) ?_ (by assumption) ?_
                  rotate_left
                  · intro w hSw; (try dsimp only at hSw); replace X0 := bel_cell hSw X0; replace zp := Nat.lt_of_lt_of_le zp hSw.size; go_simp; try with_reducible rfl
                  (try simp only [Act.put, List.setIfInBounds_toArray, List.set_cons_zero, List.set_cons_succ])
                  refine wpAnyH_done (by kernel_rfl) ?_ _
                  refine NoPanic.normal ?_
                  clear X0 zp HT HD
                  go_wp2_with (fail)
                  go_roundw
                  case rel =>
                    have hs := BAH.out.size
                    refine ⟨i + 1, ([] ++ [x] ++ []), by go_num, by omega, WHY.out, ?_, owns_mono1 O4.out (Nat.le_trans BW.out.size hs), BW.out.trans ((BAH.out.trans (B4.out.mono hs)).mono BW.out.size)⟩
                    have h1 := HN.out; have h2 := HK.out; first | omega | (simp; done) | (simp; omega)
                  case measure => simp [intOf]; omega
                exact AllReadyH.nil
              exact AllReadyH.nil
            exact AllReadyH.nil
          refine reg_each (o := _) rfl (fun K hK => ?_) ?_
          · skip
            go_simp
            refine hK.out _ _ ?_ (fun hHeld2 => ?_)
            · exact below_al hHeld _
            clear hK K hHeld
            have hHeld := hHeld2
            clear hHeld2
            (try simp only [Act.put, List.setIfInBounds_toArray, List.set_cons_zero, List.set_cons_succ])
            refine wpAnyH_ready (rs := [4]) (by kernel_rfl) (by simp) ?_
            refine reg_each (o := _) rfl (fun K hK => ?_) ?_
            · skip
              refine step_append_i rfl _ _ 41 Tryd.underlying41 (by rfl) WA.heap.size (.slice none 0 0) (.slice none 0 0) WA.heap.size [] [] (by rfl) (by first | rfl | go_simp) (World.ownsRow_nil _ _ _ _) (HT.out.below hHeld (Nat.le_refl _)) (by have := HN.out; have := HK.out; first | omega | (simp; done) | (simp; omega)) hHeld.size ?_
              intro v1 W1 own1 gr1 at1
              rw [List.nil_append] at own1
              refine hK.out _ _ ?_ (fun hHeld2 => ?_)
              · exact below_grown' hHeld gr1 (fun k e => by simp [Value.ownBlock] at e) hHeld.size
              clear hK K hHeld
              have hHeld := hHeld2
              clear hHeld2
              (try simp only [Act.put, List.setIfInBounds_toArray, List.set_cons_zero, List.set_cons_succ])
              refine wpAnyH_ready (rs := [10]) (by kernel_rfl) (by simp) ?_
              refine reg_each (o := _) rfl (fun K hK => ?_) ?_
              · skip
                refine step_append_i rfl _ _ 41 Tryd.underlying41 (by rfl) WA.heap.size v1 (.slice (some ⟨WA.heap.size, 0, none⟩) 1 1) _ [] [x] (by rfl) (by first | rfl | go_simp) own1 (RdI.one ((gr1.block _ (by simp) (by simp [Value.ownBlock])).trans (Blk.new WA.drew 3 _)) (Nat.le_refl _)) (by have := HN.out; have := HK.out; first | omega | (simp; done) | (simp; omega)) hHeld.size ?_
                intro v3 W3 own3 gr3 at3
                refine hK.out _ _ ?_ (fun hHeld2 => ?_)
                · exact below_grown' hHeld gr3 (fun k e => (own1.lt k e).1) hHeld.size
                clear hK K hHeld
                have hHeld := hHeld2
                clear hHeld2
                (try simp only [Act.put, List.setIfInBounds_toArray, List.set_cons_zero, List.set_cons_succ])
                refine wpAnyH_ready (rs := [14]) (by kernel_rfl) (by simp) ?_
                refine reg_each (o := _) rfl (fun K hK => ?_) ?_
                · skip
                  refine step_append_i rfl _ _ 41 Tryd.underlying41 (by rfl) WA.heap.size v3 (.slice none 0 0) WA.heap.size ([] ++ [x]) [] (by rfl) (by first | rfl | go_simp) own3 (HD.out.below hHeld (Nat.le_refl _)) (by have := HN.out; have := HK.out; first | omega | (simp; done) | (simp; omega)) hHeld.size ?_
                  intro v4 W4 own4 gr4 at4
                  refine hK.out _ _ ?_ (fun hHeld2 => ?_)
                  · exact below_grown' hHeld gr4 (fun k e => (own3.lt k e).1) hHeld.size
                  clear hK K hHeld
                  have hHeld := hHeld2
                  clear hHeld2
                  (try simp only [Act.put, List.setIfInBounds_toArray, List.set_cons_zero, List.set_cons_succ])
                  have O4 := Lib.hid own4
                  have B4 := Lib.hid hHeld
                  clear own1 own3 own4 gr1 gr3 gr4 at1 at3 at4
                  refine reg_take (i := 15) (oi := _) (v := ?_) rfl (by kernel_rfl) (by kernel_rfl) (by kernel_rfl) (fun _ _ _ h => h) (by rfl) ?_ (by assumption) ?_
                  rotate_left
                  · intro w hSw; (try dsimp only at hSw); replace X0 := bel_cell hSw X0; replace zp := Nat.lt_of_lt_of_le zp hSw.size; go_simp; try with_reducible rfl
                  (try simp only [Act.put, List.setIfInBounds_toArray, List.set_cons_zero, List.set_cons_succ])
                  refine wpAnyH_done (by kernel_rfl) ?_ _
                  refine NoPanic.normal ?_
                  clear X0 zp HT HD
                  go_wp2_with (fail)
                  go_roundw
                  case rel =>
                    have hs := BAH.out.size
                    refine ⟨i + 1, ([] ++ [x] ++ []), by go_num, by omega, WHY.out, ?_, owns_mono1 O4.out (Nat.le_trans BW.out.size hs), BW.out.trans ((BAH.out.trans (B4.out.mono hs)).mono BW.out.size)⟩
                    have h1 := HN.out; have h2 := HK.out; first | omega | (simp; done) | (simp; omega)
                  case measure => simp [intOf]; omega
                exact AllReadyH.nil
              exact AllReadyH.nil
            exact AllReadyH.nil
          exact AllReadyH.nil
      · have HR := Lib.hid (RdI.of_owns own rfl (Nat.le_refl W0.heap.size))
        have HC := Lib.hid hn
        have HH := Lib.hid (show ∀ i, i < LL.length → W0.cell? ⟨g2, i, none⟩ = some (.int .i64 (LL.getD i 0)) from fun i hi => by
          rcases HR.out with ⟨A', c', e, _, h0⟩ | ⟨g', o', c', e, _, hh⟩
          · rw [h0] at hi; simp at hi
          · cases e; have := hh i hi; rwa [Nat.zero_add] at this)
        clear own hb hn hcs hcm ht
        go_upto_region 6 with (fail)
        go_loopw [5] (fun kv wi => ∃ k : Nat, kv = .int .i64 k ∧ k ≤ LL.length ∧ Below W0.heap.size W0 wi ∧ ∀ j, j < k → LL.getD j 0 < x) (fun kv _ => LL.length - (intOf kv).toNat)
        case atStart => exact ⟨0, rfl, Nat.zero_le _, Below.refl _ _, fun j hj => by omega⟩
        case round =>
          obtain ⟨k, rfl, hk, bel, hlt⟩ := hrel
          have k0 : (0 : Int) ≤ k := by omega
          have HLT := Lib.hid hlt
          have BEL := Lib.hid bel
          clear bel hlt
          by_cases hkl : k < LL.length
          · have hkl' : (k : Int) < (LL.length : Int) := by omega
            have c0 := HH.out k hkl
            obtain ⟨E, hE⟩ : ∃ E, LL.getD k 0 = E := ⟨_, rfl⟩
            rw [hE] at c0
            replace c0 := bel_cell BEL.out c0
            have x0 := bel_cell BEL.out HX.out
            have z0 := World.block_lt_of_cell? _ _ c0
            have z1 := World.block_lt_of_cell? _ _ x0
            have HE := Lib.hid hE
            clear hE
            by_cases hlt2 : E < x
            · have hd : decide (E < x) = true := decide_eq_true hlt2
              have HL2 := Lib.hid hlt2
              clear hlt2
              go_upto_region 6 with (fail)
              go_quiet (fail)
              have B2 := Lib.hid (below_drewN BEL.out nq)
              clear BEL c0 x0 z0 z1 hd
              have hN1 := HN.out.1
              have hN2 := HN.out.2
              go_wp2_with (fail)
              go_roundw
              case rel =>
                refine ⟨k + 1, by go_num, by omega, B2.out, fun j hj => ?_⟩
                by_cases hjk : j = k
                · subst hjk; rw [HE.out]; exact HL2.out
                · exact HLT.out j (by omega)
              case measure => simp [intOf]; omega
            · have hd : decide (E < x) = false := decide_eq_false hlt2
              have HL2 := Lib.hid hlt2
              clear hlt2
              go_upto_region 6 with (fail)
              go_quiet (fail)
              have B2 := Lib.hid (below_drewN BEL.out nq)
              clear BEL c0 x0 z0 z1 hd
              generalize wr.drewN nq = wn at *
              have c0 := bel_cell B2.out (HE.out ▸ HH.out k hkl)
              have x0 := bel_cell B2.out HX.out
              have z0 := World.block_lt_of_cell? _ _ c0
              have z1 := World.block_lt_of_cell? _ _ x0
              skip
              by_cases heq : E = x
              · have he : (E == x) = true := by simp [heq]
                have HEQ := Lib.hid heq
                clear heq
                go_upto_region 8 with (fail)
                go_quiet (fail)
                have B3 := Lib.hid (BW.out.trans ((below_drewN B2.out nq).mono BW.out.size))
                have OW := Lib.hid (own_below HOW.out (below_drewN B2.out nq))
                clear B2 c0 x0 z0 z1 he
                go_wp2_with (fail)
                go_roundw
                case rel => exact ⟨i + 1, LL, by go_num, by omega, by rw [HS.out]; exact up_same HU.out hkl (HE.out.trans HEQ.out), by have := HN.out; omega, OW.out, B3.out⟩
                case measure => simp [intOf]; omega
              · have he : (E == x) = false := by simp [heq]
                have HEQ := Lib.hid heq
                clear heq
                go_upto_region 8 with (fail)
                go_quiet (fail)
                have BA := below_drewN B2.out nq
                clear B2 c0 x0 z0 z1 he
                obtain ⟨WA, hWA⟩ : ∃ Z : World, Z = wn.drewN nq := ⟨_, rfl⟩
                rw [← hWA] at BA
                go_upto_region 10 with (fail)
                rw [← hWA]
                have X0 : WA.cell? ⟨g, o + i, none⟩ = some (.int .i64 x) := bel_cell BA HX.out
                have zp : g < WA.heap.size := World.block_lt_of_cell? _ _ X0
                have WHY := Lib.hid (show Up (LL.take k ++ [x] ++ LL.drop k) (l.take (i + 1)) from by rw [HS.out]; exact up_ins HU.out hk HLT.out (fun _ => by rw [HE.out]; exact ⟨HL2.out, HEQ.out⟩))
                have BAH := Lib.hid BA
                have HT := Lib.hid (((HR.out.below BA (Nat.le_refl _)).take hk).wider BA.size)
                have HD := Lib.hid (((HR.out.below BA (Nat.le_refl _)).drop' HC.out hk).wider BA.size)
                have i1 : (k : Int) ≤ (cap2 : Int) := by have := HC.out; omega
                have HK := Lib.hid hk
                clear BA hWA
                refine wp_region_noPanic ?_
                refine wp_region_held_drew (S := (fun w' => Below WA.heap.size WA w')) (by kernel_rfl) ?_ (fun hHeld => ?_)
                · exact below_drewN (Below.refl _ _) 1
                refine reg_take (i := 0) (oi := _) (v := ?_) rfl (by kernel_rfl) (by kernel_rfl) (by kernel_rfl) (fun _ _ _ h => h) (by rfl) ?_ (by assumption) ?_
                rotate_left
                · intro w hSw; (try dsimp only at hSw); replace X0 := bel_cell hSw X0; replace zp := Nat.lt_of_lt_of_le zp hSw.size; go_simp; try with_reducible rfl
                (try simp only [Act.put, List.setIfInBounds_toArray, List.set_cons_zero, List.set_cons_succ])
                refine reg_take (i := 1) (oi := _) (v := ?_) rfl (by kernel_rfl) (by kernel_rfl) (by kernel_rfl) (fun _ _ _ h => h) (by rfl) ?_ (by assumption) ?_
                rotate_left
                · intro w hSw; (try dsimp only at hSw); replace X0 := bel_cell hSw X0; replace zp := Nat.lt_of_lt_of_le zp hSw.size; go_simp; try with_reducible rfl
                (try simp only [Act.put, List.setIfInBounds_toArray, List.set_cons_zero, List.set_cons_succ])
                refine reg_take (i := 2) (oi := _) (v := ?_) rfl (by kernel_rfl) (by kernel_rfl) (by kernel_rfl) (fun _ _ _ h => h) (by rfl) ?_ (by assumption) ?_
                rotate_left
                · intro w hSw; (try dsimp only at hSw); replace X0 := bel_cell hSw X0; replace zp := Nat.lt_of_lt_of_le zp hSw.size; go_simp; try with_reducible rfl
                (try simp only [Act.put, List.setIfInBounds_toArray, List.set_cons_zero, List.set_cons_succ])
                refine reg_take (i := 3) (oi := _) (v := ?_) rfl (by kernel_rfl) (by kernel_rfl) (by kernel_rfl) (fun _ _ _ h => h) (by rfl) ?_ (by assumption) ?_
                rotate_left
                · intro w hSw; (try dsimp only at hSw); replace X0 := bel_cell hSw X0; replace zp := Nat.lt_of_lt_of_le zp hSw.size; go_simp; try with_reducible rfl
                (try simp only [Act.put, List.setIfInBounds_toArray, List.set_cons_zero, List.set_cons_succ])
                refine reg_take (i := 5) (oi := _) (v := ?_) rfl (by kernel_rfl) (by kernel_rfl) (by kernel_rfl) (fun _ _ _ h => h) (by rfl) ?_ (by assumption) ?_
                rotate_left
                · intro w hSw; (try dsimp only at hSw); replace X0 := bel_cell hSw X0; replace zp := Nat.lt_of_lt_of_le zp hSw.size; go_simp; try with_reducible rfl
                (try simp only [Act.put, List.setIfInBounds_toArray, List.set_cons_zero, List.set_cons_succ])
                refine reg_take (i := 6) (oi := _) (v := ?_) rfl (by kernel_rfl) (by kernel_rfl) (by kernel_rfl) (fun _ _ _ h => h) (by rfl) ?_ (by assumption) ?_
                rotate_left
                · intro w hSw; (try dsimp only at hSw); replace X0 := bel_cell hSw X0; replace zp := Nat.lt_of_lt_of_le zp hSw.size; go_simp; try with_reducible rfl
                (try simp only [Act.put, List.setIfInBounds_toArray, List.set_cons_zero, List.set_cons_succ])
                refine reg_take (i := 7) (oi := _) (v := ?_) rfl (by kernel_rfl) (by kernel_rfl) (by kernel_rfl) (fun _ _ _ h => h) (by rfl) ?_ (by assumption) ?_
                rotate_left
                · intro w hSw; (try dsimp only at hSw); replace X0 := bel_cell hSw X0; replace zp := Nat.lt_of_lt_of_le zp hSw.size; go_simp; try with_reducible rfl
                (try simp only [Act.put, List.setIfInBounds_toArray, List.set_cons_zero, List.set_cons_succ])
                refine reg_take (i := 8) (oi := _) (v := ?_) rfl (by kernel_rfl) (by kernel_rfl) (by kernel_rfl) (fun _ _ _ h => h) (by rfl) ?_ (by assumption) ?_
                rotate_left
                · intro w hSw; (try dsimp only at hSw); replace X0 := bel_cell hSw X0; replace zp := Nat.lt_of_lt_of_le zp hSw.size; go_simp; try with_reducible rfl
                (try simp only [Act.put, List.setIfInBounds_toArray, List.set_cons_zero, List.set_cons_succ])
                refine reg_take (i := 11) (oi := _) (v := ?_) rfl (by kernel_rfl) (by kernel_rfl) (by kernel_rfl) (fun _ _ _ h => h) (by rfl) ?_ (by assumption) ?_
                rotate_left
                · intro w hSw; (try dsimp only at hSw); replace X0 := bel_cell hSw X0; replace zp := Nat.lt_of_lt_of_le zp hSw.size; go_simp; try with_reducible rfl
                (try simp only [Act.put, List.setIfInBounds_toArray, List.set_cons_zero, List.set_cons_succ])
                refine reg_take (i := 12) (oi := _) (v := ?_) rfl (by kernel_rfl) (by kernel_rfl) (by kernel_rfl) (fun _ _ _ h => h) (by rfl) ?_ (by assumption) ?_
                rotate_left
                · intro w hSw; (try dsimp only at hSw); replace X0 := bel_cell hSw X0; replace zp := Nat.lt_of_lt_of_le zp hSw.size; go_simp; try with_reducible rfl
                (try simp only [Act.put, List.setIfInBounds_toArray, List.set_cons_zero, List.set_cons_succ])
                refine reg_take (i := 13) (oi := _) (v := ?_) rfl (by kernel_rfl) (by kernel_rfl) (by kernel_rfl) (fun _ _ _ h => h) (by rfl) ?_ (by assumption) ?_
                rotate_left
                · intro w hSw; (try dsimp only at hSw); replace X0 := bel_cell hSw X0; replace zp := Nat.lt_of_lt_of_le zp hSw.size; go_simp; try with_reducible rfl
                (try simp only [Act.put, List.setIfInBounds_toArray, List.set_cons_zero, List.set_cons_succ])
                refine wpAnyH_ready (rs := [4, 9]) (by kernel_rfl) (by simp) ?_
                refine reg_each (o := _) rfl (fun K hK => ?_) ?_
                · skip
                  refine step_append_i rfl _ _ 41 Tryd.underlying41 (by rfl) WA.heap.size (.slice none 0 0) (.slice (some ⟨g2, 0, none⟩) k cap2) WA.heap.size [] (LL.take k) (by rfl) (by first | rfl | go_simp) (World.ownsRow_nil _ _ _ _) (HT.out.below hHeld (Nat.le_refl _)) (by have := HN.out; have := HK.out; first | omega | (simp; done) | (simp; omega)) hHeld.size ?_
                  intro v1 W1 own1 gr1 at1
                  rw [List.nil_append] at own1
                  refine hK.out _ _ ?_ (fun hHeld2 => ?_)
                  · exact below_grown' hHeld gr1 (fun k e => by simp [Value.ownBlock] at e) hHeld.size
                  clear hK K hHeld
                  have hHeld := hHeld2
                  clear hHeld2
                  (try simp only [Act.put, List.setIfInBounds_toArray, List.set_cons_zero, List.set_cons_succ])
                  refine wpAnyH_ready (rs := [9]) (by kernel_rfl) (by simp) ?_
                  refine reg_each (o := _) rfl (fun K hK => ?_) ?_
                  · skip
                    go_simp
                    refine hK.out _ _ ?_ (fun hHeld2 => ?_)
                    · exact below_al hHeld _
                    clear hK K hHeld
                    have hHeld := hHeld2
                    clear hHeld2
                    (try simp only [Act.put, List.setIfInBounds_toArray, List.set_cons_zero, List.set_cons_succ])
                    refine wpAnyH_ready (rs := [10]) (by kernel_rfl) (by simp) ?_
                    refine reg_each (o := _) rfl (fun K hK => ?_) ?_
                    · skip
                      refine step_append_i rfl _ _ 41 Tryd.underlying41 (by rfl) WA.heap.size v1 (.slice (some ⟨W1.heap.size, 0, none⟩) 1 1) _ (LL.take k) [x] (by rfl) (by first | rfl | go_simp) (own1.alloc _) (RdI.one (Blk.new W1 3 _) (Nat.le_refl _)) (by have := HN.out; have := HK.out; first | omega | (simp; done) | (simp; omega)) hHeld.size ?_
                      intro v3 W3 own3 gr3 at3
                      refine hK.out _ _ ?_ (fun hHeld2 => ?_)
                      · exact below_grown' hHeld gr3 (fun k e => (own1.lt k e).1) hHeld.size
                      clear hK K hHeld
                      have hHeld := hHeld2
                      clear hHeld2
                      (try simp only [Act.put, List.setIfInBounds_toArray, List.set_cons_zero, List.set_cons_succ])
                      refine wpAnyH_ready (rs := [14]) (by kernel_rfl) (by simp) ?_
                      refine reg_each (o := _) rfl (fun K hK => ?_) ?_
                      · skip
                        refine step_append_i rfl _ _ 41 Tryd.underlying41 (by rfl) WA.heap.size v3 (.slice (if cap2 = k then some ⟨g2, 0, none⟩ else some ⟨g2, 0 + k, none⟩) (LL.length - k) (cap2 - k)) WA.heap.size ((LL.take k) ++ [x]) (LL.drop k) (by rfl) (by first | rfl | go_simp) own3 (HD.out.below hHeld (Nat.le_refl _)) (by have := HN.out; have := HK.out; first | omega | (simp; done) | (simp; omega)) hHeld.size ?_
                        intro v4 W4 own4 gr4 at4
                        refine hK.out _ _ ?_ (fun hHeld2 => ?_)
                        · exact below_grown' hHeld gr4 (fun k e => (own3.lt k e).1) hHeld.size
                        clear hK K hHeld
                        have hHeld := hHeld2
                        clear hHeld2
                        (try simp only [Act.put, List.setIfInBounds_toArray, List.set_cons_zero, List.set_cons_succ])
                        have O4 := Lib.hid own4
                        have B4 := Lib.hid hHeld
                        clear own1 own3 own4 gr1 gr3 gr4 at1 at3 at4
                        refine reg_take (i := 15) (oi := _) (v := ?_) rfl (by kernel_rfl) (by kernel_rfl) (by kernel_rfl) (fun _ _ _ h => h) (by rfl) ?_ (by assumption) ?_
                        rotate_left
                        · intro w hSw; (try dsimp only at hSw); replace X0 := bel_cell hSw X0; replace zp := Nat.lt_of_lt_of_le zp hSw.size; go_simp; try with_reducible rfl
                        (try simp only [Act.put, List.setIfInBounds_toArray, List.set_cons_zero, List.set_cons_succ])
                        refine wpAnyH_done (by kernel_rfl) ?_ _
                        refine NoPanic.normal ?_
                        generalize Value.slice (if cap2 = k then _ else _) (LL.length - k) (cap2 - k) = uu
                        clear X0 zp HT HD
                        go_wp2_with (fail)
                        go_roundw
                        case rel =>
                          have hs := BAH.out.size
                          refine ⟨i + 1, (LL.take k ++ [x] ++ LL.drop k), by go_num, by omega, WHY.out, ?_, owns_mono1 O4.out (Nat.le_trans BW.out.size hs), BW.out.trans ((BAH.out.trans (B4.out.mono hs)).mono BW.out.size)⟩
                          have h1 := HN.out; have h2 := HK.out; first | omega | (simp; done) | (simp; omega)
                        case measure => simp [intOf]; omega
                      exact AllReadyH.nil
                    exact AllReadyH.nil
                  exact AllReadyH.nil
                refine reg_each (o := _) rfl (fun K hK => ?_) ?_
                · skip
                  go_simp
                  refine hK.out _ _ ?_ (fun hHeld2 => ?_)
                  · exact below_al hHeld _
                  clear hK K hHeld
                  have hHeld := hHeld2
                  clear hHeld2
                  (try simp only [Act.put, List.setIfInBounds_toArray, List.set_cons_zero, List.set_cons_succ])
                  refine wpAnyH_ready (rs := [4]) (by kernel_rfl) (by simp) ?_
                  refine reg_each (o := _) rfl (fun K hK => ?_) ?_
                  · skip
                    refine step_append_i rfl _ _ 41 Tryd.underlying41 (by rfl) WA.heap.size (.slice none 0 0) (.slice (some ⟨g2, 0, none⟩) k cap2) WA.heap.size [] (LL.take k) (by rfl) (by first | rfl | go_simp) (World.ownsRow_nil _ _ _ _) (HT.out.below hHeld (Nat.le_refl _)) (by have := HN.out; have := HK.out; first | omega | (simp; done) | (simp; omega)) hHeld.size ?_
                    intro v1 W1 own1 gr1 at1
                    rw [List.nil_append] at own1
                    refine hK.out _ _ ?_ (fun hHeld2 => ?_)
                    · exact below_grown' hHeld gr1 (fun k e => by simp [Value.ownBlock] at e) hHeld.size
                    clear hK K hHeld
                    have hHeld := hHeld2
                    clear hHeld2
                    (try simp only [Act.put, List.setIfInBounds_toArray, List.set_cons_zero, List.set_cons_succ])
                    refine wpAnyH_ready (rs := [10]) (by kernel_rfl) (by simp) ?_
                    refine reg_each (o := _) rfl (fun K hK => ?_) ?_
                    · skip
                      refine step_append_i rfl _ _ 41 Tryd.underlying41 (by rfl) WA.heap.size v1 (.slice (some ⟨WA.heap.size, 0, none⟩) 1 1) _ (LL.take k) [x] (by rfl) (by first | rfl | go_simp) own1 (RdI.one ((gr1.block _ (by simp) (by simp [Value.ownBlock])).trans (Blk.new WA.drew 3 _)) (Nat.le_refl _)) (by have := HN.out; have := HK.out; first | omega | (simp; done) | (simp; omega)) hHeld.size ?_
                      intro v3 W3 own3 gr3 at3
                      refine hK.out _ _ ?_ (fun hHeld2 => ?_)
                      · exact below_grown' hHeld gr3 (fun k e => (own1.lt k e).1) hHeld.size
                      clear hK K hHeld
                      have hHeld := hHeld2
                      clear hHeld2
                      (try simp only [Act.put, List.setIfInBounds_toArray, List.set_cons_zero, List.set_cons_succ])
                      refine wpAnyH_ready (rs := [14]) (by kernel_rfl) (by simp) ?_
                      refine reg_each (o := _) rfl (fun K hK => ?_) ?_
                      · skip
                        refine step_append_i rfl _ _ 41 Tryd.underlying41 (by rfl) WA.heap.size v3 (.slice (if cap2 = k then some ⟨g2, 0, none⟩ else some ⟨g2, 0 + k, none⟩) (LL.length - k) (cap2 - k)) WA.heap.size ((LL.take k) ++ [x]) (LL.drop k) (by rfl) (by first | rfl | go_simp) own3 (HD.out.below hHeld (Nat.le_refl _)) (by have := HN.out; have := HK.out; first | omega | (simp; done) | (simp; omega)) hHeld.size ?_
                        intro v4 W4 own4 gr4 at4
                        refine hK.out _ _ ?_ (fun hHeld2 => ?_)
                        · exact below_grown' hHeld gr4 (fun k e => (own3.lt k e).1) hHeld.size
                        clear hK K hHeld
                        have hHeld := hHeld2
                        clear hHeld2
                        (try simp only [Act.put, List.setIfInBounds_toArray, List.set_cons_zero, List.set_cons_succ])
                        have O4 := Lib.hid own4
                        have B4 := Lib.hid hHeld
                        clear own1 own3 own4 gr1 gr3 gr4 at1 at3 at4
                        refine reg_take (i := 15) (oi := _) (v := ?_) rfl (by kernel_rfl) (by kernel_rfl) (by kernel_rfl) (fun _ _ _ h => h) (by rfl) ?_ (by assumption) ?_
                        rotate_left
                        · intro w hSw; (try dsimp only at hSw); replace X0 := bel_cell hSw X0; replace zp := Nat.lt_of_lt_of_le zp hSw.size; go_simp; try with_reducible rfl
                        (try simp only [Act.put, List.setIfInBounds_toArray, List.set_cons_zero, List.set_cons_succ])
                        refine wpAnyH_done (by kernel_rfl) ?_ _
                        refine NoPanic.normal ?_
                        generalize Value.slice (if cap2 = k then _ else _) (LL.length - k) (cap2 - k) = uu
                        clear X0 zp HT HD
                        go_wp2_with (fail)
                        go_roundw
                        case rel =>
                          have hs := BAH.out.size
                          refine ⟨i + 1, (LL.take k ++ [x] ++ LL.drop k), by go_num, by omega, WHY.out, ?_, owns_mono1 O4.out (Nat.le_trans BW.out.size hs), BW.out.trans ((BAH.out.trans (B4.out.mono hs)).mono BW.out.size)⟩
                          have h1 := HN.out; have h2 := HK.out; first | omega | (simp; done) | (simp; omega)
                        case measure => simp [intOf]; omega
                      exact AllReadyH.nil
                    exact AllReadyH.nil
                  exact AllReadyH.nil
                exact AllReadyH.nil
          · have hkl' : ¬ (k : Int) < (LL.length : Int) := by omega
            have dk : decide ((k : Int) < (LL.length : Int)) = false := decide_eq_false hkl'
            go_upto_region 6 with (fail)
            go_quiet (fail)
            have B2 := Lib.hid (below_drewN BEL.out nq)
            clear BEL
            generalize wr.drewN nq = wn at *
            go_upto_region 8 with (fail)
            go_quiet (fail)
            have BA := below_drewN B2.out nq
            clear B2 dk
            obtain ⟨WA, hWA⟩ : ∃ Z : World, Z = wn.drewN nq := ⟨_, rfl⟩
            rw [← hWA] at BA
            go_upto_region 10 with (fail)
            rw [← hWA]
            have X0 : WA.cell? ⟨g, o + i, none⟩ = some (.int .i64 x) := bel_cell BA HX.out
            have zp : g < WA.heap.size := World.block_lt_of_cell? _ _ X0
            have WHY := Lib.hid (show Up (LL.take k ++ [x] ++ LL.drop k) (l.take (i + 1)) from by rw [HS.out]; exact up_ins HU.out hk HLT.out (fun h => absurd h hkl))
            have BAH := Lib.hid BA
            have HT := Lib.hid (((HR.out.below BA (Nat.le_refl _)).take hk).wider BA.size)
            have HD := Lib.hid (((HR.out.below BA (Nat.le_refl _)).drop' HC.out hk).wider BA.size)
            have i1 : (k : Int) ≤ (cap2 : Int) := by have := HC.out; omega
            have HK := Lib.hid hk
            clear BA hWA
            refine wp_region_noPanic ?_
            refine wp_region_held_drew (S := (fun w' => Below WA.heap.size WA w')) (by kernel_rfl) ?_ (fun hHeld => ?_)
            · exact below_drewN (Below.refl _ _) 1
            refine reg_take (i := 0) (oi := _) (v := ?_) rfl (by kernel_rfl) (by kernel_rfl) (by kernel_rfl) (fun _ _ _ h => h) (by rfl) ?_ (by assumption) ?_
            rotate_left
            · intro w hSw; (try dsimp only at hSw); replace X0 := bel_cell hSw X0; replace zp := Nat.lt_of_lt_of_le zp hSw.size; go_simp; try with_reducible rfl
            (try simp only [Act.put, List.setIfInBounds_toArray, List.set_cons_zero, List.set_cons_succ])
            refine reg_take (i := 1) (oi := _) (v := ?_) rfl (by kernel_rfl) (by kernel_rfl) (by kernel_rfl) (fun _ _ _ h => h) (by rfl) ?_ (by assumption) ?_
            rotate_left
            · intro w hSw; (try dsimp only at hSw); replace X0 := bel_cell hSw X0; replace zp := Nat.lt_of_lt_of_le zp hSw.size; go_simp; try with_reducible rfl
            (try simp only [Act.put, List.setIfInBounds_toArray, List.set_cons_zero, List.set_cons_succ])
            refine reg_take (i := 2) (oi := _) (v := ?_) rfl (by kernel_rfl) (by kernel_rfl) (by kernel_rfl) (fun _ _ _ h => h) (by rfl) ?_ (by assumption) ?_
            rotate_left
            · intro w hSw; (try dsimp only at hSw); replace X0 := bel_cell hSw X0; replace zp := Nat.lt_of_lt_of_le zp hSw.size; go_simp; try with_reducible rfl
            (try simp only [Act.put, List.setIfInBounds_toArray, List.set_cons_zero, List.set_cons_succ])
            refine reg_take (i := 3) (oi := _) (v := ?_) rfl (by kernel_rfl) (by kernel_rfl) (by kernel_rfl) (fun _ _ _ h => h) (by rfl) ?_ (by assumption) ?_
            rotate_left
            · intro w hSw; (try dsimp only at hSw); replace X0 := bel_cell hSw X0; replace zp := Nat.lt_of_lt_of_le zp hSw.size; go_simp; try with_reducible rfl
            (try simp only [Act.put, List.setIfInBounds_toArray, List.set_cons_zero, List.set_cons_succ])
            refine reg_take (i := 5) (oi := _) (v := ?_) rfl (by kernel_rfl) (by kernel_rfl) (by kernel_rfl) (fun _ _ _ h => h) (by rfl) ?_ (by assumption) ?_
            rotate_left
            · intro w hSw; (try dsimp only at hSw); replace X0 := bel_cell hSw X0; replace zp := Nat.lt_of_lt_of_le zp hSw.size; go_simp; try with_reducible rfl
            (try simp only [Act.put, List.setIfInBounds_toArray, List.set_cons_zero, List.set_cons_succ])
            refine reg_take (i := 6) (oi := _) (v := ?_) rfl (by kernel_rfl) (by kernel_rfl) (by kernel_rfl) (fun _ _ _ h => h) (by rfl) ?_ (by assumption) ?_
            rotate_left
            · intro w hSw; (try dsimp only at hSw); replace X0 := bel_cell hSw X0; replace zp := Nat.lt_of_lt_of_le zp hSw.size; go_simp; try with_reducible rfl
            (try simp only [Act.put, List.setIfInBounds_toArray, List.set_cons_zero, List.set_cons_succ])
            refine reg_take (i := 7) (oi := _) (v := ?_) rfl (by kernel_rfl) (by kernel_rfl) (by kernel_rfl) (fun _ _ _ h => h) (by rfl) ?_ (by assumption) ?_
            rotate_left
            · intro w hSw; (try dsimp only at hSw); replace X0 := bel_cell hSw X0; replace zp := Nat.lt_of_lt_of_le zp hSw.size; go_simp; try with_reducible rfl
            (try simp only [Act.put, List.setIfInBounds_toArray, List.set_cons_zero, List.set_cons_succ])
            refine reg_take (i := 8) (oi := _) (v := ?_) rfl (by kernel_rfl) (by kernel_rfl) (by kernel_rfl) (fun _ _ _ h => h) (by rfl) ?_ (by assumption) ?_
            rotate_left
            · intro w hSw; (try dsimp only at hSw); replace X0 := bel_cell hSw X0; replace zp := Nat.lt_of_lt_of_le zp hSw.size; go_simp; try with_reducible rfl
            (try simp only [Act.put, List.setIfInBounds_toArray, List.set_cons_zero, List.set_cons_succ])
            refine reg_take (i := 11) (oi := _) (v := ?_) rfl (by kernel_rfl) (by kernel_rfl) (by kernel_rfl) (fun _ _ _ h => h) (by rfl) ?_ (by assumption) ?_
            rotate_left
            · intro w hSw; (try dsimp only at hSw); replace X0 := bel_cell hSw X0; replace zp := Nat.lt_of_lt_of_le zp hSw.size; go_simp; try with_reducible rfl
            (try simp only [Act.put, List.setIfInBounds_toArray, List.set_cons_zero, List.set_cons_succ])
            refine reg_take (i := 12) (oi := _) (v := ?_) rfl (by kernel_rfl) (by kernel_rfl) (by kernel_rfl) (fun _ _ _ h => h) (by rfl) ?_ (by assumption) ?_
            rotate_left
            · intro w hSw; (try dsimp only at hSw); replace X0 := bel_cell hSw X0; replace zp := Nat.lt_of_lt_of_le zp hSw.size; go_simp; try with_reducible rfl
            (try simp only [Act.put, List.setIfInBounds_toArray, List.set_cons_zero, List.set_cons_succ])
            refine reg_take (i := 13) (oi := _) (v := ?_) rfl (by kernel_rfl) (by kernel_rfl) (by kernel_rfl) (fun _ _ _ h => h) (by rfl) ?_ (by assumption) ?_
            rotate_left
            · intro w hSw; (try dsimp only at hSw); replace X0 := bel_cell hSw X0; replace zp := Nat.lt_of_lt_of_le zp hSw.size; go_simp; try with_reducible rfl
            (try simp only [Act.put, List.setIfInBounds_toArray, List.set_cons_zero, List.set_cons_succ])
            refine wpAnyH_ready (rs := [4, 9]) (by kernel_rfl) (by simp) ?_
            refine reg_each (o := _) rfl (fun K hK => ?_) ?_
            · skip
              refine step_append_i rfl _ _ 41 Tryd.underlying41 (by rfl) WA.heap.size (.slice none 0 0) (.slice (some ⟨g2, 0, none⟩) k cap2) WA.heap.size [] (LL.take k) (by rfl) (by first | rfl | go_simp) (World.ownsRow_nil _ _ _ _) (HT.out.below hHeld (Nat.le_refl _)) (by have := HN.out; have := HK.out; first | omega | (simp; done) | (simp; omega)) hHeld.size ?_
              intro v1 W1 own1 gr1 at1
              rw [List.nil_append] at own1
              refine hK.out _ _ ?_ (fun hHeld2 => ?_)
              · exact below_grown' hHeld gr1 (fun k e => by simp [Value.ownBlock] at e) hHeld.size
              clear hK K hHeld
              have hHeld := hHeld2
              clear hHeld2
              (try simp only [Act.put, List.setIfInBounds_toArray, List.set_cons_zero, List.set_cons_succ])
              refine wpAnyH_ready (rs := [9]) (by kernel_rfl) (by simp) ?_
              refine reg_each (o := _) rfl (fun K hK => ?_) ?_
              · skip
                go_simp
                refine hK.out _ _ ?_ (fun hHeld2 => ?_)
                · exact below_al hHeld _
                clear hK K hHeld
                have hHeld := hHeld2
                clear hHeld2
                (try simp only [Act.put, List.setIfInBounds_toArray, List.set_cons_zero, List.set_cons_succ])
                refine wpAnyH_ready (rs := [10]) (by kernel_rfl) (by simp) ?_
                refine reg_each (o := _) rfl (fun K hK => ?_) ?_
                · skip
                  refine step_append_i rfl _ _ 41 Tryd.underlying41 (by rfl) WA.heap.size v1 (.slice (some ⟨W1.heap.size, 0, none⟩) 1 1) _ (LL.take k) [x] (by rfl) (by first | rfl | go_simp) (own1.alloc _) (RdI.one (Blk.new W1 3 _) (Nat.le_refl _)) (by have := HN.out; have := HK.out; first | omega | (simp; done) | (simp; omega)) hHeld.size ?_
                  intro v3 W3 own3 gr3 at3
                  refine hK.out _ _ ?_ (fun hHeld2 => ?_)
                  · exact below_grown' hHeld gr3 (fun k e => (own1.lt k e).1) hHeld.size
                  clear hK K hHeld
                  have hHeld := hHeld2
                  clear hHeld2
                  (try simp only [Act.put, List.setIfInBounds_toArray, List.set_cons_zero, List.set_cons_succ])
                  refine wpAnyH_ready (rs := [14]) (by kernel_rfl) (by simp) ?_
                  refine reg_each (o := _) rfl (fun K hK => ?_) ?_
                  · skip
                    refine step_append_i rfl _ _ 41 Tryd.underlying41 (by rfl) WA.heap.size v3 (.slice (if cap2 = k then some ⟨g2, 0, none⟩ else some ⟨g2, 0 + k, none⟩) (LL.length - k) (cap2 - k)) WA.heap.size ((LL.take k) ++ [x]) (LL.drop k) (by rfl) (by first | rfl | go_simp) own3 (HD.out.below hHeld (Nat.le_refl _)) (by have := HN.out; have := HK.out; first | omega | (simp; done) | (simp; omega)) hHeld.size ?_
                    intro v4 W4 own4 gr4 at4
                    refine hK.out _ _ ?_ (fun hHeld2 => ?_)
                    · exact below_grown' hHeld gr4 (fun k e => (own3.lt k e).1) hHeld.size
                    clear hK K hHeld
                    have hHeld := hHeld2
                    clear hHeld2
                    (try simp only [Act.put, List.setIfInBounds_toArray, List.set_cons_zero, List.set_cons_succ])
                    have O4 := Lib.hid own4
                    have B4 := Lib.hid hHeld
                    clear own1 own3 own4 gr1 gr3 gr4 at1 at3 at4
                    refine reg_take (i := 15) (oi := _) (v := ?_) rfl (by kernel_rfl) (by kernel_rfl) (by kernel_rfl) (fun _ _ _ h => h) (by rfl) ?_ (by assumption) ?_
                    rotate_left
                    · intro w hSw; (try dsimp only at hSw); replace X0 := bel_cell hSw X0; replace zp := Nat.lt_of_lt_of_le zp hSw.size; go_simp; try with_reducible rfl
                    (try simp only [Act.put, List.setIfInBounds_toArray, List.set_cons_zero, List.set_cons_succ])
                    refine wpAnyH_done (by kernel_rfl) ?_ _
                    refine NoPanic.normal ?_
                    generalize Value.slice (if cap2 = k then _ else _) (LL.length - k) (cap2 - k) = uu
                    clear X0 zp HT HD
                    go_wp2_with (fail)
                    go_roundw
                    case rel =>
                      have hs := BAH.out.size
                      refine ⟨i + 1, (LL.take k ++ [x] ++ LL.drop k), by go_num, by omega, WHY.out, ?_, owns_mono1 O4.out (Nat.le_trans BW.out.size hs), BW.out.trans ((BAH.out.trans (B4.out.mono hs)).mono BW.out.size)⟩
                      have h1 := HN.out; have h2 := HK.out; first | omega | (simp; done) | (simp; omega)
                    case measure => simp [intOf]; omega
                  exact AllReadyH.nil
                exact AllReadyH.nil
              exact AllReadyH.nil
            refine reg_each (o := _) rfl (fun K hK => ?_) ?_
            · skip
              go_simp
              refine hK.out _ _ ?_ (fun hHeld2 => ?_)
              · exact below_al hHeld _
              clear hK K hHeld
              have hHeld := hHeld2
              clear hHeld2
              (try simp only [Act.put, List.setIfInBounds_toArray, List.set_cons_zero, List.set_cons_succ])
              refine wpAnyH_ready (rs := [4]) (by kernel_rfl) (by simp) ?_
              refine reg_each (o := _) rfl (fun K hK => ?_) ?_
              · skip
                refine step_append_i rfl _ _ 41 Tryd.underlying41 (by rfl) WA.heap.size (.slice none 0 0) (.slice (some ⟨g2, 0, none⟩) k cap2) WA.heap.size [] (LL.take k) (by rfl) (by first | rfl | go_simp) (World.ownsRow_nil _ _ _ _) (HT.out.below hHeld (Nat.le_refl _)) (by have := HN.out; have := HK.out; first | omega | (simp; done) | (simp; omega)) hHeld.size ?_
                intro v1 W1 own1 gr1 at1
                rw [List.nil_append] at own1
                refine hK.out _ _ ?_ (fun hHeld2 => ?_)
                · exact below_grown' hHeld gr1 (fun k e => by simp [Value.ownBlock] at e) hHeld.size
                clear hK K hHeld
                have hHeld := hHeld2
                clear hHeld2
                (try simp only [Act.put, List.setIfInBounds_toArray, List.set_cons_zero, List.set_cons_succ])
                refine wpAnyH_ready (rs := [10]) (by kernel_rfl) (by simp) ?_
                refine reg_each (o := _) rfl (fun K hK => ?_) ?_
                · skip
                  refine step_append_i rfl _ _ 41 Tryd.underlying41 (by rfl) WA.heap.size v1 (.slice (some ⟨WA.heap.size, 0, none⟩) 1 1) _ (LL.take k) [x] (by rfl) (by first | rfl | go_simp) own1 (RdI.one ((gr1.block _ (by simp) (by simp [Value.ownBlock])).trans (Blk.new WA.drew 3 _)) (Nat.le_refl _)) (by have := HN.out; have := HK.out; first | omega | (simp; done) | (simp; omega)) hHeld.size ?_
                  intro v3 W3 own3 gr3 at3
                  refine hK.out _ _ ?_ (fun hHeld2 => ?_)
                  · exact below_grown' hHeld gr3 (fun k e => (own1.lt k e).1) hHeld.size
                  clear hK K hHeld
                  have hHeld := hHeld2
                  clear hHeld2
                  (try simp only [Act.put, List.setIfInBounds_toArray, List.set_cons_zero, List.set_cons_succ])
                  refine wpAnyH_ready (rs := [14]) (by kernel_rfl) (by simp) ?_
                  refine reg_each (o := _) rfl (fun K hK => ?_) ?_
                  · skip
                    refine step_append_i rfl _ _ 41 Tryd.underlying41 (by rfl) WA.heap.size v3 (.slice (if cap2 = k then some ⟨g2, 0, none⟩ else some ⟨g2, 0 + k, none⟩) (LL.length - k) (cap2 - k)) WA.heap.size ((LL.take k) ++ [x]) (LL.drop k) (by rfl) (by first | rfl | go_simp) own3 (HD.out.below hHeld (Nat.le_refl _)) (by have := HN.out; have := HK.out; first | omega | (simp; done) | (simp; omega)) hHeld.size ?_
                    intro v4 W4 own4 gr4 at4
                    refine hK.out _ _ ?_ (fun hHeld2 => ?_)
                    · exact below_grown' hHeld gr4 (fun k e => (own3.lt k e).1) hHeld.size
                    clear hK K hHeld
                    have hHeld := hHeld2
                    clear hHeld2
                    (try simp only [Act.put, List.setIfInBounds_toArray, List.set_cons_zero, List.set_cons_succ])
                    have O4 := Lib.hid own4
                    have B4 := Lib.hid hHeld
                    clear own1 own3 own4 gr1 gr3 gr4 at1 at3 at4
                    refine reg_take (i := 15) (oi := _) (v := ?_) rfl (by kernel_rfl) (by kernel_rfl) (by kernel_rfl) (fun _ _ _ h => h) (by rfl) ?_ (by assumption) ?_
                    rotate_left
                    · intro w hSw; (try dsimp only at hSw); replace X0 := bel_cell hSw X0; replace zp := Nat.lt_of_lt_of_le zp hSw.size; go_simp; try with_reducible rfl
                    (try simp only [Act.put, List.setIfInBounds_toArray, List.set_cons_zero, List.set_cons_succ])
                    refine wpAnyH_done (by kernel_rfl) ?_ _
                    refine NoPanic.normal ?_
                    generalize Value.slice (if cap2 = k then _ else _) (LL.length - k) (cap2 - k) = uu
                    clear X0 zp HT HD
                    go_wp2_with (fail)
                    go_roundw
                    case rel =>
                      have hs := BAH.out.size
                      refine ⟨i + 1, (LL.take k ++ [x] ++ LL.drop k), by go_num, by omega, WHY.out, ?_, owns_mono1 O4.out (Nat.le_trans BW.out.size hs), BW.out.trans ((BAH.out.trans (B4.out.mono hs)).mono BW.out.size)⟩
                      have h1 := HN.out; have h2 := HK.out; first | omega | (simp; done) | (simp; omega)
                    case measure => simp [intOf]; omega
                  exact AllReadyH.nil
                exact AllReadyH.nil
              exact AllReadyH.nil
            exact AllReadyH.nil
    · obtain rfl : i = l.length := by omega
      have hU := HU.out
      rw [List.take_length] at hU
      have HU2 := Lib.hid hU
      clear hU HU own
      have HN2 := Lib.hid HN.out.1
      clear HN
      go_wp2_with (fail)
      go_ret
      exact ⟨_, LL, rfl, HU2.out, HN2.out, HOW.out, BW.out⟩
end Go.Proofs.YtjffciejoahegaaDoor
