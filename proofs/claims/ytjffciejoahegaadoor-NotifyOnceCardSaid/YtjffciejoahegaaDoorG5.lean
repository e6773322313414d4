/- The law NotifyChooses, walked. -/
import Derived.Test.YtjffciejoahegaaDoorG4
namespace Go.Proofs.YtjffciejoahegaaDoor
open Go.RowKit
set_option linter.unusedVariables false
theorem tot_at {L : List Es} {e : Es} (h : e ∈ L) : e.c.length ≤ totF L := by
  obtain ⟨k, hk, rfl⟩ := List.getElem_of_mem h
  have h1 := totF_at L hk
  rw [List.getD_eq_getElem?_getD, List.getElem?_eq_getElem hk] at h1
  simp only [Option.getD_some] at h1; omega
theorem owns_mono5 {w : World} {B C n : Nat} {t : TypeId} {v : Value} {xs : List Value} (h : w.ownsRow B t 5 v n xs) (k : C ≤ B) : w.ownsRow C t 5 v n xs := by
  refine ⟨h.1, h.2.imp id ?_⟩
  rintro ⟨g, cap, cur, e, hB, r⟩
  exact ⟨g, cap, cur, e, Nat.le_trans k hB, r⟩
set_option maxRecDepth 100000 in
set_option maxHeartbeats 8000000 in
theorem chooses_walk (u v : Value) (own : List Int) (ren of n : Int) (L : List Es) (w : World) (hw : WordsOk w) (hu : RdI w u w.heap.size own) (h : RdX w v w.heap.size L) (hc : ∀ e ∈ L, RdI w (.slice e.a e.c.length e.cap) w.heap.size e.c) (hlo : own.length ≤ 9223372036854775807) (hll : L.length ≤ 9223372036854775807) (hlc : ∀ e ∈ L, e.c.length ≤ 9223372036854775807) :
    Calls Tryd.prog 6 #[u, v, .agg #[.int .i64 ren, .int .i64 of, .int .i64 n]] w fun e w' => e = .returned (.bool true) ∧ Below w.heap.size w w' := by
  obtain ⟨A, cap, rfl⟩ := h.form
  obtain ⟨A0, cap0, rfl⟩ := hu.form
  have B0 := below_al (Below.refl w.heap.size w) (.cells #[.int .i64 ren, .int .i64 of, .int .i64 n] 44)
  have HI := Lib.hid (h.below B0 (Nat.le_refl _))
  have HCC := Lib.hid (fun e he => (hc e he).below B0 (Nat.le_refl _))
  have HU := Lib.hid (hu.below B0 (Nat.le_refl _))
  have HLC := Lib.hid hlc
  have HW := Lib.hid (hw.below B0)
  have HB := Lib.hid (Blk.new w 44 #[.int .i64 ren, .int .i64 of, .int .i64 n])
  have BW := Lib.hid B0
  clear h hc hu hw hlc B0
  go_enter Tryd.func6, Tryd.ntmps6
  by_cases hbig : 60 < own.length
  · have hbig' : (60 : Int) < (own.length : Int) := by omega
    go_wp2_with (fail)
    refine (sure_walk _ HW.out).mono ?_
    rintro x w1 ⟨rfl, hb⟩
    have B2 := below_trans BW.out hb
    go_wp2
    go_ret
    exact ⟨rfl, B2⟩
  by_cases hbig2 : 30 < L.length
  · have hbig' : ¬ (60 : Int) < (own.length : Int) := by omega
    have hbig2' : (30 : Int) < (L.length : Int) := by omega
    go_wp2_with (fail)
    refine (sure_walk _ HW.out).mono ?_
    rintro x w1 ⟨rfl, hb⟩
    have B2 := below_trans BW.out hb
    go_wp2
    go_ret
    exact ⟨rfl, B2⟩
  have hbig' : ¬ (60 : Int) < (own.length : Int) := by omega
  have hbig2' : ¬ (30 : Int) < (L.length : Int) := by omega
  go_upto_region 5 with (fail)
  have hsb := HB.out.lt
  have HSB := Lib.hid (show w.heap.size ≤ (w.alloc (.cells #[.int .i64 ren, .int .i64 of, .int .i64 n] 44)).heap.size by simp)
  generalize hgB : w.heap.size = gB at *
  generalize w.alloc (Obj.cells #[Value.int IntKind.i64 ren, Value.int IntKind.i64 of, Value.int IntKind.i64 n] 44) = W1 at *
  go_loopw [7, 8] (fun sv iv wr => ∃ i s : Nat, sv = .int .i64 s ∧ iv = .int .i64 i ∧ i ≤ L.length ∧ s = sumF (L.take i) ∧ wr = W1) (fun _ iv _ => L.length - (intOf iv).toNat)
  case atStart => exact ⟨0, 0, rfl, rfl, Nat.zero_le _, rfl, rfl⟩
  case round =>
    obtain ⟨i, s, rfl, rfl, hi, hs, rfl⟩ := hrel
    have i0 : (0 : Int) ≤ i := by omega
    have hs1 : s ≤ 30000 := by have := sumF_le (L.take i); rw [List.length_take] at this; omega
    by_cases hlt : i < L.length
    · have hlt' : (i : Int) < (L.length : Int) := by omega
      rcases HI.out with ⟨_, _, _, _, hl0⟩ | ⟨g, o, cp, e, hg, hh⟩
      · rw [hl0] at hlt; simp at hlt
      cases e
      obtain ⟨_, _, _, c3, _⟩ := hh i hlt
      have hcl := HLC.out (L.getD i es0) (by rw [List.getD_eq_getElem?_getD, List.getElem?_eq_getElem hlt]; exact List.getElem_mem _)
      have z0 := World.block_lt_of_cell? _ _ c3
      have HS := Lib.hid (show sumF (L.take (i + 1)) = s + min (L.getD i es0).c.length 1000 by rw [takeX_succ hlt, sumF_snoc, ← hs])
      clear hs hh
      generalize (L.getD i es0).a = ea at *
      generalize (L.getD i es0).cap = ecap at *
      generalize (L.getD i es0).c.length = el at *
      have HCL := Lib.hid hcl
      clear hcl
      by_cases hm : el ≤ 1000
      · have m1 : (el : Int) ≤ 1000 := by omega
        have hmin : min (el : Int) 1000 = (el : Int) := by omega
        have HS2 := Lib.hid (show min el 1000 = el by omega)
        go_wp2_with (fail)
        go_roundw
        case rel => exact ⟨i + 1, s + el, by go_num, by go_num, by omega, by rw [HS.out, HS2.out], by first | rfl | trivial⟩
        case measure => simp [intOf]; omega
      · have m1 : ¬ (el : Int) ≤ 1000 := by omega
        have hmin : min (el : Int) 1000 = 1000 := by omega
        have HS2 := Lib.hid (show min el 1000 = 1000 by omega)
        go_wp2_with (fail)
        go_roundw
        case rel => exact ⟨i + 1, s + 1000, by go_num, by go_num, by omega, by rw [HS.out, HS2.out], by first | rfl | trivial⟩
        case measure => simp [intOf]; omega
    · obtain rfl : i = L.length := by omega
      rw [List.take_length] at hs
      by_cases h200 : 200 < s
      · have h200' : (200 : Int) < (s : Int) := by omega
        go_wp2_with (fail)
        refine (sure_walk _ HW.out).mono ?_
        rintro x w1 ⟨rfl, hb⟩
        have B2 := BW.out.trans (hb.mono HSB.out)
        go_wp2
        go_ret
        first | exact ⟨rfl, B2⟩ | exact ⟨rfl, hgB ▸ B2⟩
      have h200' : ¬ (200 : Int) < (s : Int) := by omega
      have HT := Lib.hid (show totF L ≤ 200 by have := tot_sum L; omega)
      clear hs
      have HELC := Lib.hid (show ∀ e ∈ L, e.c.length ≤ 200 from fun e he => by have := tot_at he; have := HT.out; omega)
      have GV := Lib.hid (fun w' (hb : Below wr.heap.size wr w') => give_walk (.slice A L.length cap) L (by omega) w' ((HI.out.below hb HSB.out).wider (Nat.le_trans HSB.out hb.size)))
      have CH := Lib.hid (fun v' w1 w' (hb1 : Below wr.heap.size wr w1) (own1 : w1.ownsRow wr.heap.size 58 5 v' L.length (cellsX L)) (hb : Below w1.heap.size w1 w') => choose_walk (.slice A0 own.length cap0) v' own ren of n L (by omega) (by omega) (by have := HT.out; omega) w' ((HU.out.below (below_trans hb1 hb) HSB.out).wider (Nat.le_trans HSB.out (below_trans hb1 hb).size)) (((RdX.of_owns own1 rfl (Nat.le_refl _)).below hb (Nat.le_refl _)).wider hb.size) (fun e he => ((HCC.out e he).below (below_trans hb1 hb) HSB.out).wider (Nat.le_trans HSB.out (below_trans hb1 hb).size)))
      have y0 : wr.cell? ⟨gB, 0, none⟩ = some (.int .i64 ren) := by rw [HB.out.cell]; rfl
      have y1 : wr.cell? ⟨gB, 1, none⟩ = some (.int .i64 of) := by rw [HB.out.cell]; rfl
      have y2 : wr.cell? ⟨gB, 2, none⟩ = some (.int .i64 n) := by rw [HB.out.cell]; rfl
      go_upto_region 10 with (fail)
      skip
      refine wp_region_noPanic ?_
      refine wp_region_held_drew (S := (fun w' => Below wr.heap.size wr w')) (by kernel_rfl) ?_ (fun hHeld => ?_)
      · exact below_drewN (Below.refl _ _) 1
      refine reg_take (i := 0) (oi := _) (v := ?_) rfl (by kernel_rfl) (by kernel_rfl) (by kernel_rfl) (fun _ _ _ h => h) (by rfl) ?_ (by assumption) ?_
      rotate_left
      · intro w hSw; (try dsimp only at hSw); replace y0 := bel_cell hSw y0; replace y1 := bel_cell hSw y1; replace y2 := bel_cell hSw y2; replace hsb := Nat.lt_of_lt_of_le hsb hSw.size; go_simp; try with_reducible rfl
      (try simp only [Act.put, List.setIfInBounds_toArray, List.set_cons_zero, List.set_cons_succ])
      refine reg_take (i := 1) (oi := _) (v := ?_) rfl (by kernel_rfl) (by kernel_rfl) (by kernel_rfl) (fun _ _ _ h => h) (by rfl) ?_ (by assumption) ?_
      rotate_left
      · intro w hSw; (try dsimp only at hSw); replace y0 := bel_cell hSw y0; replace y1 := bel_cell hSw y1; replace y2 := bel_cell hSw y2; replace hsb := Nat.lt_of_lt_of_le hsb hSw.size; go_simp; try with_reducible rfl
      (try simp only [Act.put, List.setIfInBounds_toArray, List.set_cons_zero, List.set_cons_succ])
      refine reg_take (i := 2) (oi := _) (v := ?_) rfl (by kernel_rfl) (by kernel_rfl) (by kernel_rfl) (fun _ _ _ h => h) (by rfl) ?_ (by assumption) ?_
      rotate_left
      · intro w hSw; (try dsimp only at hSw); replace y0 := bel_cell hSw y0; replace y1 := bel_cell hSw y1; replace y2 := bel_cell hSw y2; replace hsb := Nat.lt_of_lt_of_le hsb hSw.size; go_simp; try with_reducible rfl
      (try simp only [Act.put, List.setIfInBounds_toArray, List.set_cons_zero, List.set_cons_succ])
      refine reg_take (i := 3) (oi := _) (v := ?_) rfl (by kernel_rfl) (by kernel_rfl) (by kernel_rfl) (fun _ _ _ h => h) (by rfl) ?_ (by assumption) ?_
      rotate_left
      · intro w hSw; (try dsimp only at hSw); replace y0 := bel_cell hSw y0; replace y1 := bel_cell hSw y1; replace y2 := bel_cell hSw y2; replace hsb := Nat.lt_of_lt_of_le hsb hSw.size; go_simp; try with_reducible rfl
      (try simp only [Act.put, List.setIfInBounds_toArray, List.set_cons_zero, List.set_cons_succ])
      refine reg_take (i := 5) (oi := _) (v := ?_) rfl (by kernel_rfl) (by kernel_rfl) (by kernel_rfl) (fun _ _ _ h => h) (by rfl) ?_ (by assumption) ?_
      rotate_left
      · intro w hSw; (try dsimp only at hSw); replace y0 := bel_cell hSw y0; replace y1 := bel_cell hSw y1; replace y2 := bel_cell hSw y2; replace hsb := Nat.lt_of_lt_of_le hsb hSw.size; go_simp; try with_reducible rfl
      (try simp only [Act.put, List.setIfInBounds_toArray, List.set_cons_zero, List.set_cons_succ])
      refine reg_take (i := 6) (oi := _) (v := ?_) rfl (by kernel_rfl) (by kernel_rfl) (by kernel_rfl) (fun _ _ _ h => h) (by rfl) ?_ (by assumption) ?_
      rotate_left
      · intro w hSw; (try dsimp only at hSw); replace y0 := bel_cell hSw y0; replace y1 := bel_cell hSw y1; replace y2 := bel_cell hSw y2; replace hsb := Nat.lt_of_lt_of_le hsb hSw.size; go_simp; try with_reducible rfl
      (try simp only [Act.put, List.setIfInBounds_toArray, List.set_cons_zero, List.set_cons_succ])
      refine reg_take (i := 7) (oi := _) (v := ?_) rfl (by kernel_rfl) (by kernel_rfl) (by kernel_rfl) (fun _ _ _ h => h) (by rfl) ?_ (by assumption) ?_
      rotate_left
      · intro w hSw; (try dsimp only at hSw); replace y0 := bel_cell hSw y0; replace y1 := bel_cell hSw y1; replace y2 := bel_cell hSw y2; replace hsb := Nat.lt_of_lt_of_le hsb hSw.size; go_simp; try with_reducible rfl
      (try simp only [Act.put, List.setIfInBounds_toArray, List.set_cons_zero, List.set_cons_succ])
      refine reg_take (i := 8) (oi := _) (v := ?_) rfl (by kernel_rfl) (by kernel_rfl) (by kernel_rfl) (fun _ _ _ h => h) (by rfl) ?_ (by assumption) ?_
      rotate_left
      · intro w hSw; (try dsimp only at hSw); replace y0 := bel_cell hSw y0; replace y1 := bel_cell hSw y1; replace y2 := bel_cell hSw y2; replace hsb := Nat.lt_of_lt_of_le hsb hSw.size; go_simp; try with_reducible rfl
      (try simp only [Act.put, List.setIfInBounds_toArray, List.set_cons_zero, List.set_cons_succ])
      refine wpAnyH_ready (rs := [4]) (by kernel_rfl) (by simp) ?_
      refine reg_each (o := _) rfl (fun K hK => ?_) ?_
      · skip
        go_simp
        refine (GV.out _ hHeld).mono ?_
        rintro x w1 ⟨v1, rfl, hown, hb⟩
        have B1 := Lib.hid (below_trans hHeld hb)
        have OW1 := Lib.hid (owns_mono5 hown hHeld.size)
        clear hown hb
        go_wp2_with (fail)
        refine hK.out _ _ ?_ (fun hHeld2 => ?_)
        · exact B1.out
        clear hK K hHeld
        have hHeld := hHeld2
        clear hHeld2
        (try simp only [Act.put, List.setIfInBounds_toArray, List.set_cons_zero, List.set_cons_succ])
        have hBg := Lib.hid hHeld
        refine wpAnyH_ready (rs := [9]) (by kernel_rfl) (by simp) ?_
        refine reg_each (o := _) rfl (fun K hK => ?_) ?_
        · skip
          go_simp
          refine (CH.out v1 w1 _ B1.out OW1.out (Below.refl _ _)).mono ?_
          rintro x w2 ⟨v2, M, rfl, hU, hML, hown, hb2⟩
          have HU2 := Lib.hid hU
          have HM2 := Lib.hid hML
          have OW2 := Lib.hid hown
          have B2 := Lib.hid (below_trans B1.out hb2)
          clear hU hML hown
          go_wp2_with (fail)
          refine hK.out _ _ ?_ (fun hHeld2 => ?_)
          · exact B2.out
          clear hK K hHeld
          have hHeld := hHeld2
          clear hHeld2
          (try simp only [Act.put, List.setIfInBounds_toArray, List.set_cons_zero, List.set_cons_succ])
          refine reg_take (i := 10) (oi := _) (v := ?_) rfl (by kernel_rfl) (by kernel_rfl) (by kernel_rfl) (fun _ _ _ h => h) (by rfl) ?_ (by assumption) ?_
          rotate_left
          · intro w hSw; (try dsimp only at hSw); replace y0 := bel_cell hSw y0; replace y1 := bel_cell hSw y1; replace y2 := bel_cell hSw y2; replace hsb := Nat.lt_of_lt_of_le hsb hSw.size; go_simp; try with_reducible rfl
          (try simp only [Act.put, List.setIfInBounds_toArray, List.set_cons_zero, List.set_cons_succ])
          refine reg_take (i := 11) (oi := _) (v := ?_) rfl (by kernel_rfl) (by kernel_rfl) (by kernel_rfl) (fun _ _ _ h => h) (by rfl) ?_ (by assumption) ?_
          rotate_left
          · intro w hSw; (try dsimp only at hSw); replace y0 := bel_cell hSw y0; replace y1 := bel_cell hSw y1; replace y2 := bel_cell hSw y2; replace hsb := Nat.lt_of_lt_of_le hsb hSw.size; go_simp; try with_reducible rfl
          (try simp only [Act.put, List.setIfInBounds_toArray, List.set_cons_zero, List.set_cons_succ])
          refine reg_take (i := 12) (oi := _) (v := ?_) rfl (by kernel_rfl) (by kernel_rfl) (by kernel_rfl) (fun _ _ _ h => h) (by rfl) ?_ (by assumption) ?_
          rotate_left
          · intro w hSw; (try dsimp only at hSw); replace y0 := bel_cell hSw y0; replace y1 := bel_cell hSw y1; replace y2 := bel_cell hSw y2; replace hsb := Nat.lt_of_lt_of_le hsb hSw.size; go_simp; try with_reducible rfl
          (try simp only [Act.put, List.setIfInBounds_toArray, List.set_cons_zero, List.set_cons_succ])
          refine reg_take (i := 13) (oi := _) (v := ?_) rfl (by kernel_rfl) (by kernel_rfl) (by kernel_rfl) (fun _ _ _ h => h) (by rfl) ?_ (by assumption) ?_
          rotate_left
          · intro w hSw; (try dsimp only at hSw); replace y0 := bel_cell hSw y0; replace y1 := bel_cell hSw y1; replace y2 := bel_cell hSw y2; replace hsb := Nat.lt_of_lt_of_le hsb hSw.size; go_simp; try with_reducible rfl
          (try simp only [Act.put, List.setIfInBounds_toArray, List.set_cons_zero, List.set_cons_succ])
          refine reg_take (i := 14) (oi := _) (v := ?_) rfl (by kernel_rfl) (by kernel_rfl) (by kernel_rfl) (fun _ _ _ h => h) (by rfl) ?_ (by assumption) ?_
          rotate_left
          · intro w hSw; (try dsimp only at hSw); replace y0 := bel_cell hSw y0; replace y1 := bel_cell hSw y1; replace y2 := bel_cell hSw y2; replace hsb := Nat.lt_of_lt_of_le hsb hSw.size; go_simp; try with_reducible rfl
          (try simp only [Act.put, List.setIfInBounds_toArray, List.set_cons_zero, List.set_cons_succ])
          refine wpAnyH_done (by kernel_rfl) ?_ _
          refine NoPanic.normal ?_
          have RC := Lib.hid (refchoose_walk (.slice A0 own.length cap0) (.slice A L.length cap) own ren of n L (by omega) (by omega) (by have := HT.out; omega) w2 ((HU.out.below B2.out HSB.out).wider (Nat.le_trans HSB.out B2.out.size)) ((HI.out.below B2.out HSB.out).wider (Nat.le_trans HSB.out B2.out.size)) (fun e he => ((HCC.out e he).below B2.out HSB.out).wider (Nat.le_trans HSB.out B2.out.size)))
          replace y0 := bel_cell B2.out y0
          replace y1 := bel_cell B2.out y1
          replace y2 := bel_cell B2.out y2
          replace hsb := Nat.lt_of_lt_of_le hsb B2.out.size
          have hWw2 := Lib.hid (HW.out.below B2.out)
          have hb0 := Lib.hid (BW.out.trans (B2.out.mono HSB.out))
          have hR1 := Lib.hid (RdI.of_owns OW2.out rfl (Nat.le_refl w2.heap.size))
          have hgw := Lib.hid (Nat.le_trans HSB.out B2.out.size)
          clear hHeld hBg GV CH OW1 B1 B2 HB HI HCC HU HLC HW BW OW2
          go_wp2_with (fail)
          refine RC.out.mono ?_
          rintro x w3 ⟨v3, M3, rfl, hU3, hML3, hown3, hb3⟩
          obtain rfl := hU3.uniq HU2.out
          have IN := Lib.hid (ints_walk v2 v3 M3 hML3 w3 ((hR1.out.below hb3 (Nat.le_refl _)).wider hb3.size) (RdI.of_owns hown3 rfl (Nat.le_refl _)))
          have B3 := Lib.hid (hb0.out.trans (hb3.mono hgw.out))
          have HW3 := Lib.hid (hWw2.out.below hb3)
          have hg3 := Lib.hid (Nat.le_trans hgw.out hb3.size)
          clear RC hU3 hML3 hown3 hb3 HU2 HM2 hR1 hWw2 hb0 hgw y0 y1 y2 hsb
          generalize secF ren (allF of n L) = sec at *
          have he : (sec == sec) = true := by simp
          go_wp2_with (fail)
          refine IN.out.mono ?_
          rintro x w4 ⟨rfl, hb4⟩
          have B4 := Lib.hid (B3.out.trans (hb4.mono hg3.out))
          have HW4 := Lib.hid (HW3.out.below hb4)
          have hg4 := Lib.hid (Nat.le_trans hg3.out hb4.size)
          clear IN hb4 HW3 B3
          go_wp2_with (fail)
          refine (sure_walk _ HW4.out).mono ?_
          rintro x w5 ⟨rfl, hb5⟩
          have B5 := B4.out.trans (hb5.mono hg4.out)
          go_wp2
          go_ret
          first | exact ⟨rfl, B5⟩ | exact ⟨rfl, hgB ▸ B5⟩
        exact AllReadyH.nil
      exact AllReadyH.nil
end Go.Proofs.YtjffciejoahegaaDoor
