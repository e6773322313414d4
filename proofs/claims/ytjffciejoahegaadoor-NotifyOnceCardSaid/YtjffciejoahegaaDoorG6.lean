/- The law NotifyOnce, walked. -/
import Derived.Test.YtjffciejoahegaaDoorG5
namespace Go.Proofs.YtjffciejoahegaaDoor
open Go.RowKit
set_option linter.unusedVariables false
theorem least_nonneg {m : Int} (e : Es) (h : 0 ≤ m) : 0 ≤ leastF e m := by
  unfold leastF; split
  · omega
  · exact h
theorem all_nonneg (of n : Int) (L : List Es) : 0 ≤ (allF of n L).m := by
  suffices h : ∀ (L : List Es) (t : St), 0 ≤ t.m → 0 ≤ (L.foldl (stepF of n) t).m from h L _ (Int.le_refl 0)
  intro L
  induction L with
  | nil => intro t h; exact h
  | cons e r ih =>
    intro t h
    rw [List.foldl_cons]
    refine ih _ ?_
    unfold stepF
    split
    · exact least_nonneg e h
    · exact h
theorem sec_nonneg (ren of n : Int) (L : List Es) : 0 ≤ secF ren (allF of n L) := by
  unfold secF
  split
  · exact all_nonneg of n L
  · omega
theorem all_mem (of n x : Int) (L : List Es) (hx : x ∈ (allF of n L).c) : ∃ e ∈ L, e.o = of ∧ e.f ≤ n ∧ x ∈ e.c := by
  suffices h : ∀ (L : List Es) (t : St), x ∈ (L.foldl (stepF of n) t).c → x ∈ t.c ∨ ∃ e ∈ L, e.o = of ∧ e.f ≤ n ∧ x ∈ e.c by
    rcases h L _ hx with c | c
    · simp at c
    · exact c
  intro L
  induction L with
  | nil => intro t h; exact .inl h
  | cons e r ih =>
    intro t h
    rw [List.foldl_cons] at h
    rcases ih _ h with c | ⟨e2, h2, h3⟩
    · unfold stepF at c
      split at c
      · rename_i hc
        rcases List.mem_append.1 c with c | c
        · exact .inl c
        · exact .inr ⟨e, List.mem_cons_self, hc.1, hc.2.1, c⟩
      · exact .inl c
    · exact .inr ⟨e2, List.mem_cons_of_mem _ h2, h3⟩
/-- x stands among what was gone over. -/
def Pre (own : List Int) (L : List Es) (of n x : Int) (k : Nat) : Prop := x ∈ own ∨ ∃ e ∈ L.take k, e.o = of ∧ e.f ≤ n ∧ x ∈ e.c
theorem pre_zero {own : List Int} {L : List Es} {of n x : Int} (h : Pre own L of n x 0) : x ∈ own := by
  rcases h with h | ⟨e, h, _⟩
  · exact h
  · simp at h
theorem pre_all {own : List Int} {L : List Es} {of n x : Int} (h : x ∈ pickF own (allF of n L)) : Pre own L of n x L.length := by
  unfold pickF at h
  split at h
  · have := all_mem of n x L h
    rw [Pre, List.take_length]; exact .inr this
  · exact .inl h
theorem pre_succ {own : List Int} {L : List Es} {of n x : Int} {k : Nat} (hk : k < L.length) (h : Pre own L of n x (k + 1)) : Pre own L of n x k ∨ ((L.getD k es0).o = of ∧ (L.getD k es0).f ≤ n ∧ x ∈ (L.getD k es0).c) := by
  rcases h with h | ⟨e, h, h2⟩
  · exact .inl (.inl h)
  · rw [takeX_succ hk] at h
    rcases List.mem_append.1 h with c | c
    · exact .inl (.inr ⟨e, c, h2⟩)
    · rw [List.mem_singleton.1 c] at h2; exact .inr h2
set_option maxRecDepth 100000 in
set_option maxHeartbeats 8000000 in
theorem oncelaw_walk (u v : Value) (own : List Int) (ren of n : Int) (L : List Es) (w : World) (hw : WordsOk w) (hu : RdI w u w.heap.size own) (h : RdX w v w.heap.size L) (hc : ∀ e ∈ L, RdI w (.slice e.a e.c.length e.cap) w.heap.size e.c) (hlo : own.length ≤ 9223372036854775807) (hll : L.length ≤ 9223372036854775807) (hlc : ∀ e ∈ L, e.c.length ≤ 9223372036854775807) :
    Calls Tryd.prog 7 #[u, v, .agg #[.int .i64 ren, .int .i64 of, .int .i64 n]] w fun e w' => e = .returned (.bool true) ∧ Below w.heap.size w w' := by
  obtain ⟨A, cap, rfl⟩ := h.form
  obtain ⟨A0, cap0, rfl⟩ := hu.form
  have B0 := below_al (Below.refl w.heap.size w) (.cells #[.int .i64 ren, .int .i64 of, .int .i64 n] 44)
  have HI := Lib.hid (h.below B0 (Nat.le_refl _))
  have HCC := Lib.hid (fun e he => (hc e he).below B0 (Nat.le_refl _))
  have HU := Lib.hid (hu.below B0 (Nat.le_refl _))
  have HLC := Lib.hid hlc
  have HW := Lib.hid (hw.below B0)
  have HB := Lib.hid (Blk.new w 44 #[.int .i64 ren, .int .i64 of, .int .i64 n])
  have BW := Lib.hid B0
  clear h hc hu hw hlc B0
  go_enter Tryd.func7, Tryd.ntmps7
  by_cases hbig : 60 < own.length
  · have hbig' : (60 : Int) < (own.length : Int) := by omega
    go_wp2_with (fail)
    refine (sure_walk _ HW.out).mono ?_
    rintro x w1 ⟨rfl, hb⟩
    have B2 := below_trans BW.out hb
    go_wp2
    go_ret
    exact ⟨rfl, B2⟩
  by_cases hbig2 : 30 < L.length
  · have hbig' : ¬ (60 : Int) < (own.length : Int) := by omega
    have hbig2' : (30 : Int) < (L.length : Int) := by omega
    go_wp2_with (fail)
    refine (sure_walk _ HW.out).mono ?_
    rintro x w1 ⟨rfl, hb⟩
    have B2 := below_trans BW.out hb
    go_wp2
    go_ret
    exact ⟨rfl, B2⟩
  have hbig' : ¬ (60 : Int) < (own.length : Int) := by omega
  have hbig2' : ¬ (30 : Int) < (L.length : Int) := by omega
  go_upto_region 5 with (fail)
  have hsb := HB.out.lt
  have HSB := Lib.hid (show w.heap.size ≤ (w.alloc (.cells #[.int .i64 ren, .int .i64 of, .int .i64 n] 44)).heap.size by simp)
  generalize hgB : w.heap.size = gB at *
  generalize w.alloc (Obj.cells #[Value.int IntKind.i64 ren, Value.int IntKind.i64 of, Value.int IntKind.i64 n] 44) = W1 at *
  go_loopw [7, 8] (fun sv iv wr => ∃ i s : Nat, sv = .int .i64 s ∧ iv = .int .i64 i ∧ i ≤ L.length ∧ s = sumF (L.take i) ∧ wr = W1) (fun _ iv _ => L.length - (intOf iv).toNat)
  case atStart => exact ⟨0, 0, rfl, rfl, Nat.zero_le _, rfl, rfl⟩
  case round =>
    obtain ⟨i, s, rfl, rfl, hi, hs, rfl⟩ := hrel
    have i0 : (0 : Int) ≤ i := by omega
    have hs1 : s ≤ 30000 := by have := sumF_le (L.take i); rw [List.length_take] at this; omega
    by_cases hlt : i < L.length
    · have hlt' : (i : Int) < (L.length : Int) := by omega
      rcases HI.out with ⟨_, _, _, _, hl0⟩ | ⟨g, o, cp, e, hg, hh⟩
      · rw [hl0] at hlt; simp at hlt
      cases e
      obtain ⟨_, _, _, c3, _⟩ := hh i hlt
      have hcl := HLC.out (L.getD i es0) (by rw [List.getD_eq_getElem?_getD, List.getElem?_eq_getElem hlt]; exact List.getElem_mem _)
      have z0 := World.block_lt_of_cell? _ _ c3
      have HS := Lib.hid (show sumF (L.take (i + 1)) = s + min (L.getD i es0).c.length 1000 by rw [takeX_succ hlt, sumF_snoc, ← hs])
      clear hs hh
      generalize (L.getD i es0).a = ea at *
      generalize (L.getD i es0).cap = ecap at *
      generalize (L.getD i es0).c.length = el at *
      have HCL := Lib.hid hcl
      clear hcl
      by_cases hm : el ≤ 1000
      · have m1 : (el : Int) ≤ 1000 := by omega
        have hmin : min (el : Int) 1000 = (el : Int) := by omega
        have HS2 := Lib.hid (show min el 1000 = el by omega)
        go_wp2_with (fail)
        go_roundw
        case rel => exact ⟨i + 1, s + el, by go_num, by go_num, by omega, by rw [HS.out, HS2.out], by first | rfl | trivial⟩
        case measure => simp [intOf]; omega
      · have m1 : ¬ (el : Int) ≤ 1000 := by omega
        have hmin : min (el : Int) 1000 = 1000 := by omega
        have HS2 := Lib.hid (show min el 1000 = 1000 by omega)
        go_wp2_with (fail)
        go_roundw
        case rel => exact ⟨i + 1, s + 1000, by go_num, by go_num, by omega, by rw [HS.out, HS2.out], by first | rfl | trivial⟩
        case measure => simp [intOf]; omega
    · obtain rfl : i = L.length := by omega
      rw [List.take_length] at hs
      by_cases h200 : 200 < s
      · have h200' : (200 : Int) < (s : Int) := by omega
        go_wp2_with (fail)
        refine (sure_walk _ HW.out).mono ?_
        rintro x w1 ⟨rfl, hb⟩
        have B2 := BW.out.trans (hb.mono HSB.out)
        go_wp2
        go_ret
        first | exact ⟨rfl, B2⟩ | exact ⟨rfl, hgB ▸ B2⟩
      have h200' : ¬ (200 : Int) < (s : Int) := by omega
      have HT := Lib.hid (show totF L ≤ 200 by have := tot_sum L; omega)
      clear hs
      have HELC := Lib.hid (show ∀ e ∈ L, e.c.length ≤ 200 from fun e he => by have := tot_at he; have := HT.out; omega)
      have GV := Lib.hid (fun w' (hb : Below wr.heap.size wr w') => give_walk (.slice A L.length cap) L (by omega) w' ((HI.out.below hb HSB.out).wider (Nat.le_trans HSB.out hb.size)))
      have CH := Lib.hid (fun v' w1 w' (hb1 : Below wr.heap.size wr w1) (own1 : w1.ownsRow wr.heap.size 58 5 v' L.length (cellsX L)) (hb : Below w1.heap.size w1 w') => choose_walk (.slice A0 own.length cap0) v' own ren of n L (by omega) (by omega) (by have := HT.out; omega) w' ((HU.out.below (below_trans hb1 hb) HSB.out).wider (Nat.le_trans HSB.out (below_trans hb1 hb).size)) (((RdX.of_owns own1 rfl (Nat.le_refl _)).below hb (Nat.le_refl _)).wider hb.size) (fun e he => ((HCC.out e he).below (below_trans hb1 hb) HSB.out).wider (Nat.le_trans HSB.out (below_trans hb1 hb).size)))
      have y0 : wr.cell? ⟨gB, 0, none⟩ = some (.int .i64 ren) := by rw [HB.out.cell]; rfl
      have y1 : wr.cell? ⟨gB, 1, none⟩ = some (.int .i64 of) := by rw [HB.out.cell]; rfl
      have y2 : wr.cell? ⟨gB, 2, none⟩ = some (.int .i64 n) := by rw [HB.out.cell]; rfl
      go_upto_region 10 with (fail)
      skip
      refine wp_region_noPanic ?_
      refine wp_region_held_drew (S := (fun w' => Below wr.heap.size wr w')) (by kernel_rfl) ?_ (fun hHeld => ?_)
      · exact below_drewN (Below.refl _ _) 1
      refine reg_take (i := 0) (oi := _) (v := ?_) rfl (by kernel_rfl) (by kernel_rfl) (by kernel_rfl) (fun _ _ _ h => h) (by rfl) ?_ (by assumption) ?_
      rotate_left
      · intro w hSw; (try dsimp only at hSw); replace y0 := bel_cell hSw y0; replace y1 := bel_cell hSw y1; replace y2 := bel_cell hSw y2; replace hsb := Nat.lt_of_lt_of_le hsb hSw.size; go_simp; try with_reducible rfl
      (try simp only [Act.put, List.setIfInBounds_toArray, List.set_cons_zero, List.set_cons_succ])
      refine reg_take (i := 1) (oi := _) (v := ?_) rfl (by kernel_rfl) (by kernel_rfl) (by kernel_rfl) (fun _ _ _ h => h) (by rfl) ?_ (by assumption) ?_
      rotate_left
      · intro w hSw; (try dsimp only at hSw); replace y0 := bel_cell hSw y0; replace y1 := bel_cell hSw y1; replace y2 := bel_cell hSw y2; replace hsb := Nat.lt_of_lt_of_le hsb hSw.size; go_simp; try with_reducible rfl
      (try simp only [Act.put, List.setIfInBounds_toArray, List.set_cons_zero, List.set_cons_succ])
      refine reg_take (i := 2) (oi := _) (v := ?_) rfl (by kernel_rfl) (by kernel_rfl) (by kernel_rfl) (fun _ _ _ h => h) (by rfl) ?_ (by assumption) ?_
      rotate_left
      · intro w hSw; (try dsimp only at hSw); replace y0 := bel_cell hSw y0; replace y1 := bel_cell hSw y1; replace y2 := bel_cell hSw y2; replace hsb := Nat.lt_of_lt_of_le hsb hSw.size; go_simp; try with_reducible rfl
      (try simp only [Act.put, List.setIfInBounds_toArray, List.set_cons_zero, List.set_cons_succ])
      refine reg_take (i := 3) (oi := _) (v := ?_) rfl (by kernel_rfl) (by kernel_rfl) (by kernel_rfl) (fun _ _ _ h => h) (by rfl) ?_ (by assumption) ?_
      rotate_left
      · intro w hSw; (try dsimp only at hSw); replace y0 := bel_cell hSw y0; replace y1 := bel_cell hSw y1; replace y2 := bel_cell hSw y2; replace hsb := Nat.lt_of_lt_of_le hsb hSw.size; go_simp; try with_reducible rfl
      (try simp only [Act.put, List.setIfInBounds_toArray, List.set_cons_zero, List.set_cons_succ])
      refine reg_take (i := 5) (oi := _) (v := ?_) rfl (by kernel_rfl) (by kernel_rfl) (by kernel_rfl) (fun _ _ _ h => h) (by rfl) ?_ (by assumption) ?_
      rotate_left
      · intro w hSw; (try dsimp only at hSw); replace y0 := bel_cell hSw y0; replace y1 := bel_cell hSw y1; replace y2 := bel_cell hSw y2; replace hsb := Nat.lt_of_lt_of_le hsb hSw.size; go_simp; try with_reducible rfl
      (try simp only [Act.put, List.setIfInBounds_toArray, List.set_cons_zero, List.set_cons_succ])
      refine reg_take (i := 6) (oi := _) (v := ?_) rfl (by kernel_rfl) (by kernel_rfl) (by kernel_rfl) (fun _ _ _ h => h) (by rfl) ?_ (by assumption) ?_
      rotate_left
      · intro w hSw; (try dsimp only at hSw); replace y0 := bel_cell hSw y0; replace y1 := bel_cell hSw y1; replace y2 := bel_cell hSw y2; replace hsb := Nat.lt_of_lt_of_le hsb hSw.size; go_simp; try with_reducible rfl
      (try simp only [Act.put, List.setIfInBounds_toArray, List.set_cons_zero, List.set_cons_succ])
      refine reg_take (i := 7) (oi := _) (v := ?_) rfl (by kernel_rfl) (by kernel_rfl) (by kernel_rfl) (fun _ _ _ h => h) (by rfl) ?_ (by assumption) ?_
      rotate_left
      · intro w hSw; (try dsimp only at hSw); replace y0 := bel_cell hSw y0; replace y1 := bel_cell hSw y1; replace y2 := bel_cell hSw y2; replace hsb := Nat.lt_of_lt_of_le hsb hSw.size; go_simp; try with_reducible rfl
      (try simp only [Act.put, List.setIfInBounds_toArray, List.set_cons_zero, List.set_cons_succ])
      refine reg_take (i := 8) (oi := _) (v := ?_) rfl (by kernel_rfl) (by kernel_rfl) (by kernel_rfl) (fun _ _ _ h => h) (by rfl) ?_ (by assumption) ?_
      rotate_left
      · intro w hSw; (try dsimp only at hSw); replace y0 := bel_cell hSw y0; replace y1 := bel_cell hSw y1; replace y2 := bel_cell hSw y2; replace hsb := Nat.lt_of_lt_of_le hsb hSw.size; go_simp; try with_reducible rfl
      (try simp only [Act.put, List.setIfInBounds_toArray, List.set_cons_zero, List.set_cons_succ])
      refine wpAnyH_ready (rs := [4]) (by kernel_rfl) (by simp) ?_
      refine reg_each (o := _) rfl (fun K hK => ?_) ?_
      · skip
        go_simp
        refine (GV.out _ hHeld).mono ?_
        rintro x w1 ⟨v1, rfl, hown, hb⟩
        have B1 := Lib.hid (below_trans hHeld hb)
        have OW1 := Lib.hid (owns_mono5 hown hHeld.size)
        clear hown hb
        go_wp2_with (fail)
        refine hK.out _ _ ?_ (fun hHeld2 => ?_)
        · exact B1.out
        clear hK K hHeld
        have hHeld := hHeld2
        clear hHeld2
        (try simp only [Act.put, List.setIfInBounds_toArray, List.set_cons_zero, List.set_cons_succ])
        have hBg := Lib.hid hHeld
        refine wpAnyH_ready (rs := [9]) (by kernel_rfl) (by simp) ?_
        refine reg_each (o := _) rfl (fun K hK => ?_) ?_
        · skip
          go_simp
          refine (CH.out v1 w1 _ B1.out OW1.out (Below.refl _ _)).mono ?_
          rintro x w2 ⟨v2, M, rfl, hU, hML, hown, hb2⟩
          have HU2 := Lib.hid hU
          have HM2 := Lib.hid hML
          have OW2 := Lib.hid hown
          have B2 := Lib.hid (below_trans B1.out hb2)
          clear hU hML hown
          go_wp2_with (fail)
          refine hK.out _ _ ?_ (fun hHeld2 => ?_)
          · exact B2.out
          clear hK K hHeld
          have hHeld := hHeld2
          clear hHeld2
          (try simp only [Act.put, List.setIfInBounds_toArray, List.set_cons_zero, List.set_cons_succ])
          refine reg_take (i := 10) (oi := _) (v := ?_) rfl (by kernel_rfl) (by kernel_rfl) (by kernel_rfl) (fun _ _ _ h => h) (by rfl) ?_ (by assumption) ?_
          rotate_left
          · intro w hSw; (try dsimp only at hSw); replace y0 := bel_cell hSw y0; replace y1 := bel_cell hSw y1; replace y2 := bel_cell hSw y2; replace hsb := Nat.lt_of_lt_of_le hsb hSw.size; go_simp; try with_reducible rfl
          (try simp only [Act.put, List.setIfInBounds_toArray, List.set_cons_zero, List.set_cons_succ])
          refine reg_take (i := 11) (oi := _) (v := ?_) rfl (by kernel_rfl) (by kernel_rfl) (by kernel_rfl) (fun _ _ _ h => h) (by rfl) ?_ (by assumption) ?_
          rotate_left
          · intro w hSw; (try dsimp only at hSw); replace y0 := bel_cell hSw y0; replace y1 := bel_cell hSw y1; replace y2 := bel_cell hSw y2; replace hsb := Nat.lt_of_lt_of_le hsb hSw.size; go_simp; try with_reducible rfl
          (try simp only [Act.put, List.setIfInBounds_toArray, List.set_cons_zero, List.set_cons_succ])
          refine reg_take (i := 12) (oi := _) (v := ?_) rfl (by kernel_rfl) (by kernel_rfl) (by kernel_rfl) (fun _ _ _ h => h) (by rfl) ?_ (by assumption) ?_
          rotate_left
          · intro w hSw; (try dsimp only at hSw); replace y0 := bel_cell hSw y0; replace y1 := bel_cell hSw y1; replace y2 := bel_cell hSw y2; replace hsb := Nat.lt_of_lt_of_le hsb hSw.size; go_simp; try with_reducible rfl
          (try simp only [Act.put, List.setIfInBounds_toArray, List.set_cons_zero, List.set_cons_succ])
          refine reg_take (i := 13) (oi := _) (v := ?_) rfl (by kernel_rfl) (by kernel_rfl) (by kernel_rfl) (fun _ _ _ h => h) (by rfl) ?_ (by assumption) ?_
          rotate_left
          · intro w hSw; (try dsimp only at hSw); replace y0 := bel_cell hSw y0; replace y1 := bel_cell hSw y1; replace y2 := bel_cell hSw y2; replace hsb := Nat.lt_of_lt_of_le hsb hSw.size; go_simp; try with_reducible rfl
          (try simp only [Act.put, List.setIfInBounds_toArray, List.set_cons_zero, List.set_cons_succ])
          refine reg_take (i := 14) (oi := _) (v := ?_) rfl (by kernel_rfl) (by kernel_rfl) (by kernel_rfl) (fun _ _ _ h => h) (by rfl) ?_ (by assumption) ?_
          rotate_left
          · intro w hSw; (try dsimp only at hSw); replace y0 := bel_cell hSw y0; replace y1 := bel_cell hSw y1; replace y2 := bel_cell hSw y2; replace hsb := Nat.lt_of_lt_of_le hsb hSw.size; go_simp; try with_reducible rfl
          (try simp only [Act.put, List.setIfInBounds_toArray, List.set_cons_zero, List.set_cons_succ])
          refine wpAnyH_done (by kernel_rfl) ?_ _
          refine NoPanic.normal ?_
          obtain ⟨A3, cap3, rfl⟩ := (RdI.of_owns OW2.out rfl (Nat.le_refl w2.heap.size)).form
          have HRM := Lib.hid (RdI.of_owns OW2.out rfl (Nat.le_refl w2.heap.size))
          have HRU := Lib.hid ((HU.out.below B2.out HSB.out).wider (Nat.le_trans HSB.out B2.out.size))
          have HRX := Lib.hid ((HI.out.below B2.out HSB.out).wider (Nat.le_trans HSB.out B2.out.size))
          have HRC := Lib.hid (fun e he => ((HCC.out e he).below B2.out HSB.out).wider (Nat.le_trans HSB.out B2.out.size))
          replace y1 := Lib.hid (bel_cell B2.out y1)
          replace y2 := Lib.hid (bel_cell B2.out y2)
          have HW2 := Lib.hid (HW.out.below B2.out)
          have hb0 := Lib.hid (BW.out.trans (B2.out.mono HSB.out))
          have hgw := Lib.hid (Nat.le_trans HSB.out B2.out.size)
          have hML2 : M.length ≤ 65536 := HM2.out
          have hsec := Lib.hid (sec_nonneg ren of n L)
          clear hHeld hBg GV CH OW1 B1 B2 HB HI HCC HU HLC HW BW OW2 y0 hsb HSB HM2
          generalize secF ren (allF of n L) = sec at *
          have s0 : decide (sec < 0) = false := decide_eq_false (by have := hsec.out; omega)
          go_upto_region 14 with (fail)
          clear s0
          go_loopw [11, 12, 13, 14, 15] (fun iv _ _ _ _ wr => ∃ i : Nat, iv = .int .i64 i ∧ i ≤ M.length ∧ Below w2.heap.size w2 wr) (fun iv _ _ _ _ _ => M.length - (intOf iv).toNat)
          case atStart => exact ⟨0, rfl, Nat.zero_le _, Below.refl _ _⟩
          case round =>
            obtain ⟨i, rfl, hi, bel⟩ := hrel
            have i0 : (0 : Int) ≤ i := by omega
            have BEL := Lib.hid bel
            clear bel
            by_cases hlt : i < M.length
            rotate_left
            · obtain rfl : i = M.length := by omega
              go_wp2_with (fail)
              refine (sure_walk _ (HW2.out.below BEL.out)).mono ?_
              rintro x w5 ⟨rfl, hb5⟩
              have B5 := hb0.out.trans ((BEL.out.trans (hb5.mono BEL.out.size)).mono hgw.out)
              go_wp2
              go_ret
              first | exact ⟨rfl, B5⟩ | exact ⟨rfl, hgB ▸ B5⟩
            have hlt' : (i : Int) < (M.length : Int) := by omega
            rcases HRM.out with ⟨_, _, _, _, hl0⟩ | ⟨gm, om, cp, e, hgm, hhm⟩
            · rw [hl0] at hlt; simp at hlt
            cases e
            have HX := Lib.hid (hhm i hlt)
            have HMX := Lib.hid ((HU2.out.2 (M.getD i 0)).1 (getD_mem hlt))
            have HPX := Lib.hid (show ∀ k, i = k + 1 → w2.cell? ⟨gm, om + k, none⟩ = some (.int .i64 (M.getD k 0)) ∧ ¬ M.getD i 0 ≤ M.getD k 0 from fun k hk => ⟨hhm k (by omega), by have := up_lt HU2.out.1 (show k < i by omega) hlt; omega⟩)
            clear hhm
            generalize M.getD i 0 = x at *
            skip
            rcases Nat.eq_zero_or_pos i with hz | hz
            · have hz' : ¬ (0 : Int) < (i : Int) := by omega
              have dz : decide ((0 : Int) < (i : Int)) = false := decide_eq_false hz'
              have dn : decide (0 < i) = false := decide_eq_false (by omega)
              clear hz hz'
              go_upto_region 16 with (fail)
              go_quiet (fail)
              have BQ := Lib.hid (below_drewN BEL.out nq)
              clear BEL dz dn
              generalize wr.drewN nq = wq at *
              go_upto_region 20 with (fail)
              go_loopw [12, 13] (fun bv kv wr => ∃ (k : Nat) (b : Bool), bv = .bool b ∧ kv = .int .i64 k ∧ k ≤ own.length ∧ (x ∈ own.take k → b = true) ∧ Below w2.heap.size w2 wr) (fun _ kv _ => own.length - (intOf kv).toNat)
              case atStart => exact ⟨0, false, rfl, rfl, Nat.zero_le _, by simp, BQ.out⟩
              case round =>
                obtain ⟨k, b, rfl, rfl, hk, hkb, bel⟩ := hrel
                have k0 : (0 : Int) ≤ k := by omega
                have BL := Lib.hid bel
                have HKB := Lib.hid hkb
                clear bel hkb BQ
                by_cases hkl : k < own.length
                · have hkl' : (k : Int) < (own.length : Int) := by omega
                  rcases HRU.out with ⟨_, _, _, _, hl0⟩ | ⟨go, oo, cpo, e, hgo, hho⟩
                  · rw [hl0] at hkl; simp at hkl
                  cases e
                  have u0 := bel_cell BL.out (hho k hkl)
                  have x0 := bel_cell BL.out HX.out
                  have HT1 := Lib.hid (take_succ_getD hkl)
                  clear hho
                  generalize own.getD k 0 = E at *
                  have z0 := World.block_lt_of_cell? _ _ u0
                  have z1 := World.block_lt_of_cell? _ _ x0
                  cases b with
                  | true =>
                    go_upto_region 22 with (fail)
                    go_quiet (fail)
                    have B3 := Lib.hid (below_drewN BL.out nq)
                    clear BL u0 x0 z0 z1
                    go_wp2_with (fail)
                    go_roundw
                    case rel => exact ⟨k + 1, true, rfl, by go_num, by omega, fun _ => rfl, B3.out⟩
                    case measure => simp [intOf]; omega
                  | false =>
                    by_cases heq : E = x
                    · have he : (E == x) = true := by simp [heq]
                      clear heq
                      go_upto_region 22 with (fail)
                      go_quiet (fail)
                      have B3 := Lib.hid (below_drewN BL.out nq)
                      clear BL u0 x0 z0 z1
                      go_wp2_with (fail)
                      go_roundw
                      case rel => exact ⟨k + 1, true, rfl, by go_num, by omega, fun _ => rfl, B3.out⟩
                      case measure => simp [intOf]; omega
                    · have he : (E == x) = false := by simp [heq]
                      have HEQ := Lib.hid heq
                      clear heq
                      go_upto_region 22 with (fail)
                      go_quiet (fail)
                      have B3 := Lib.hid (below_drewN BL.out nq)
                      clear BL u0 x0 z0 z1
                      go_wp2_with (fail)
                      go_roundw
                      case rel => exact ⟨k + 1, false, rfl, by go_num, by omega, fun hx => by
                            rw [HT1.out] at hx
                            rcases List.mem_append.1 hx with c | c
                            · exact HKB.out c
                            · exact absurd (List.mem_singleton.1 c).symm HEQ.out, B3.out⟩
                      case measure => simp [intOf]; omega
                · have hkl' : ¬ (k : Int) < (own.length : Int) := by omega
                  have HB0 := Lib.hid (show x ∈ own → b = true from fun hx => HKB.out (by rw [List.take_of_length_le (by omega)]; exact hx))
                  clear HKB
                  go_upto_region 24 with (fail)
                  go_loopw [12, 14, 15] (fun bv kv _ wr => ∃ (k : Nat) (b : Bool), bv = .bool b ∧ kv = .int .i64 k ∧ k ≤ L.length ∧ (Pre own L of n x k → b = true) ∧ Below w2.heap.size w2 wr) (fun _ kv _ _ => L.length - (intOf kv).toNat)
                  case atStart => exact ⟨0, b, rfl, rfl, Nat.zero_le _, fun h => HB0.out (pre_zero h), BL.out⟩
                  case round =>
                    clear hkl hkl' k0 HB0 BL
                    obtain ⟨k, b, rfl, rfl, hk, hkb, bel⟩ := hrel
                    have k0 : (0 : Int) ≤ k := by omega
                    have BL := Lib.hid bel
                    have HKB := Lib.hid hkb
                    clear bel hkb
                    by_cases hkl : k < L.length
                    rotate_left
                    · obtain rfl : k = L.length := by omega
                      obtain rfl : b = true := HKB.out (pre_all HMX.out)
                      go_wp2_with (fail)
                      go_roundw
                      case rel => exact ⟨i + 1, by go_num, by omega, BL.out⟩
                      case measure => simp [intOf]; omega
                    have hkl' : (k : Int) < (L.length : Int) := by omega
                    rcases HRX.out with ⟨_, _, _, _, hl0⟩ | ⟨gx, ox, cpx, e, hgx, hhx⟩
                    · rw [hl0] at hkl; simp at hkl
                    cases e
                    obtain ⟨q0, q1, _, q3, _⟩ := hhx k hkl
                    have HRE := Lib.hid (HRC.out (L.getD k es0) (by rw [List.getD_eq_getElem?_getD, List.getElem?_eq_getElem hkl]; exact List.getElem_mem _))
                    have HPS := Lib.hid (fun h => pre_succ (own := own) (of := of) (n := n) (x := x) hkl h)
                    have hecl := HELC.out (L.getD k es0) (by rw [List.getD_eq_getElem?_getD, List.getElem?_eq_getElem hkl]; exact List.getElem_mem _)
                    clear hhx
                    generalize L.getD k es0 = E at *
                    obtain ⟨eo, ef, el, ea, ec, ecap, er⟩ := E
                    dsimp only at q0 q1 q3 HRE HPS hecl
                    have HECL := Lib.hid hecl
                    clear hecl
                    have Q0 := Lib.hid q0
                    have Q1 := Lib.hid q1
                    have Q3 := Lib.hid q3
                    clear q0 q1 q3
                    go_upto_region 27 with (fail)
                    go_loopw [12, 15] (fun bv jv wr => ∃ (j : Nat) (b : Bool), bv = .bool b ∧ jv = .int .i64 j ∧ j ≤ ec.length ∧ (Pre own L of n x k → b = true) ∧ (x ∈ ec.take j → b = true) ∧ Below w2.heap.size w2 wr) (fun _ jv _ => ec.length - (intOf jv).toNat)
                    case atStart => exact ⟨0, b, rfl, rfl, Nat.zero_le _, HKB.out, by simp, BL.out⟩
                    case round =>
                      clear HKB BL
                      obtain ⟨jj, b, rfl, rfl, hj, hkb, hjb, bel⟩ := hrel
                      have j0 : (0 : Int) ≤ jj := by omega
                      have BL := Lib.hid bel
                      have HKB := Lib.hid hkb
                      have HJB := Lib.hid hjb
                      clear bel hkb hjb
                      have q0 := bel_cell BL.out Q0.out
                      have q1 := bel_cell BL.out Q1.out
                      have q3 := bel_cell BL.out Q3.out
                      have yy1 := bel_cell BL.out y1.out
                      have yy2 := bel_cell BL.out y2.out
                      have z0 := World.block_lt_of_cell? _ _ q0
                      have z1 := World.block_lt_of_cell? _ _ yy1
                      by_cases h1 : eo = of
                      rotate_left
                      · have d1 : (eo == of) = false := by simp [h1]
                        have H1 := Lib.hid h1
                        clear h1
                        go_upto_region 27 with (fail)
                        go_quiet (fail)
                        have B3 := Lib.hid (below_drewN BL.out nq)
                        clear BL q0 q1 q3 yy1 yy2 z0 z1
                        go_wp2_with (fail)
                        go_roundw
                        case rel => exact ⟨k + 1, b, rfl, by go_num, by omega, fun h => (HPS.out h).elim HKB.out fun h => absurd h.1 H1.out, B3.out⟩
                        case measure => simp [intOf]; omega
                      have d1 : (eo == of) = true := by simp [h1]
                      clear h1
                      by_cases h2 : ef ≤ n
                      rotate_left
                      · have d2 : decide (ef ≤ n) = false := decide_eq_false h2
                        have H2 := Lib.hid h2
                        clear h2
                        go_upto_region 27 with (fail)
                        go_quiet (fail)
                        have B3 := Lib.hid (below_drewN BL.out nq)
                        clear BL q0 q1 q3 yy1 yy2 z0 z1
                        go_wp2_with (fail)
                        go_roundw
                        case rel => exact ⟨k + 1, b, rfl, by go_num, by omega, fun h => (HPS.out h).elim HKB.out fun h => absurd h.2.1 H2.out, B3.out⟩
                        case measure => simp [intOf]; omega
                      have d2 : decide (ef ≤ n) = true := decide_eq_true h2
                      clear h2
                      by_cases h3 : jj < ec.length
                      rotate_left
                      · have d3 : decide ((jj : Int) < (ec.length : Int)) = false := decide_eq_false (by omega)
                        have HJ3 := Lib.hid (show ec.take jj = ec from List.take_of_length_le (by omega))
                        have H3' : ¬ (jj : Int) < (ec.length : Int) := by omega
                        clear h3
                        go_upto_region 27 with (fail)
                        go_quiet (fail)
                        have B3 := Lib.hid (below_drewN BL.out nq)
                        clear BL q0 q1 q3 yy1 yy2 z0 z1
                        go_wp2_with (fail)
                        go_roundw
                        case rel => exact ⟨k + 1, b, rfl, by go_num, by omega, fun h => (HPS.out h).elim HKB.out fun h => HJB.out (by rw [HJ3.out]; exact h.2.2), B3.out⟩
                        case measure => simp [intOf]; omega
                      have h3' : (jj : Int) < (ec.length : Int) := by omega
                      have d3 : decide ((jj : Int) < (ec.length : Int)) = true := decide_eq_true h3'
                      go_upto_region 27 with (fail)
                      go_quiet (fail)
                      have B4 := Lib.hid (below_drewN BL.out nq)
                      clear BL q0 q1 q3 yy1 yy2 z0 z1 d1 d2 d3
                      generalize wr.drewN nq = wn at *
                      rcases HRE.out with ⟨_, _, _, _, hl0⟩ | ⟨ge, oe, cpe, e, hge, hhe⟩
                      · rw [hl0] at h3; simp at h3
                      cases e
                      have q3 := bel_cell B4.out Q3.out
                      have u0 := bel_cell B4.out (hhe jj h3)
                      have x0 := bel_cell B4.out HX.out
                      have HT1 := Lib.hid (take_succ_getD h3)
                      clear hhe
                      generalize ec.getD jj 0 = E at *
                      have z0 := World.block_lt_of_cell? _ _ u0
                      have z1 := World.block_lt_of_cell? _ _ x0
                      have z3 := World.block_lt_of_cell? _ _ q3
                      have hecl := HECL.out
                      cases b with
                      | true =>
                        go_upto_region 29 with (fail)
                        go_quiet (fail)
                        have B3 := Lib.hid (below_drewN B4.out nq)
                        clear B4 u0 x0 q3 z0 z1 z3
                        go_wp2_with (fail)
                        go_roundw
                        case rel => exact ⟨jj + 1, true, rfl, by go_num, by omega, fun _ => rfl, fun _ => rfl, B3.out⟩
                        case measure => simp [intOf]; omega
                      | false =>
                        by_cases heq : E = x
                        · have he : (E == x) = true := by simp [heq]
                          clear heq
                          go_upto_region 29 with (fail)
                          go_quiet (fail)
                          have B3 := Lib.hid (below_drewN B4.out nq)
                          clear B4 u0 x0 q3 z0 z1 z3
                          go_wp2_with (fail)
                          go_roundw
                          case rel => exact ⟨jj + 1, true, rfl, by go_num, by omega, fun _ => rfl, fun _ => rfl, B3.out⟩
                          case measure => simp [intOf]; omega
                        · have he : (E == x) = false := by simp [heq]
                          have HEQ := Lib.hid heq
                          clear heq
                          go_upto_region 29 with (fail)
                          go_quiet (fail)
                          have B3 := Lib.hid (below_drewN B4.out nq)
                          clear B4 u0 x0 q3 z0 z1 z3
                          go_wp2_with (fail)
                          go_roundw
                          case rel => exact ⟨jj + 1, false, rfl, by go_num, by omega, HKB.out, fun hx => by
                                rw [HT1.out] at hx
                                rcases List.mem_append.1 hx with c | c
                                · exact HJB.out c
                                · exact absurd (List.mem_singleton.1 c).symm HEQ.out, B3.out⟩
                          case measure => simp [intOf]; omega
            · have hz' : (0 : Int) < (i : Int) := by omega
              obtain ⟨p, hp⟩ : ∃ p, i = p + 1 := ⟨i - 1, by omega⟩
              obtain ⟨p0, HPL⟩ := HPX.out p hp
              have hwp : IntKind.i64.wrap ((i : Int) - 1) = (p : Int) := by rw [IntKind.wrap_i64]; omega
              have pp0 : (0 : Int) ≤ p := by omega
              have pp1 : (p : Int) < (M.length : Int) := by omega
              replace p0 := bel_cell BEL.out p0
              have x0 := bel_cell BEL.out HX.out
              have zx := World.block_lt_of_cell? _ _ x0
              generalize M.getD p 0 = y at *
              have dy : decide (x ≤ y) = false := decide_eq_false HPL
              clear HPL hp
              go_upto_region 16 with (fail)
              go_quiet (fail)
              have BQ := Lib.hid (below_drewN BEL.out nq)
              clear BEL hz' p0 x0 zx dy hwp pp0 pp1
              generalize wr.drewN nq = wq at *
              go_upto_region 20 with (fail)
              go_loopw [12, 13] (fun bv kv wr => ∃ (k : Nat) (b : Bool), bv = .bool b ∧ kv = .int .i64 k ∧ k ≤ own.length ∧ (x ∈ own.take k → b = true) ∧ Below w2.heap.size w2 wr) (fun _ kv _ => own.length - (intOf kv).toNat)
              case atStart => exact ⟨0, false, rfl, rfl, Nat.zero_le _, by simp, BQ.out⟩
              case round =>
                obtain ⟨k, b, rfl, rfl, hk, hkb, bel⟩ := hrel
                have k0 : (0 : Int) ≤ k := by omega
                have BL := Lib.hid bel
                have HKB := Lib.hid hkb
                clear bel hkb BQ
                by_cases hkl : k < own.length
                · have hkl' : (k : Int) < (own.length : Int) := by omega
                  rcases HRU.out with ⟨_, _, _, _, hl0⟩ | ⟨go, oo, cpo, e, hgo, hho⟩
                  · rw [hl0] at hkl; simp at hkl
                  cases e
                  have u0 := bel_cell BL.out (hho k hkl)
                  have x0 := bel_cell BL.out HX.out
                  have HT1 := Lib.hid (take_succ_getD hkl)
                  clear hho
                  generalize own.getD k 0 = E at *
                  have z0 := World.block_lt_of_cell? _ _ u0
                  have z1 := World.block_lt_of_cell? _ _ x0
                  cases b with
                  | true =>
                    go_upto_region 22 with (fail)
                    go_quiet (fail)
                    have B3 := Lib.hid (below_drewN BL.out nq)
                    clear BL u0 x0 z0 z1
                    go_wp2_with (fail)
                    go_roundw
                    case rel => exact ⟨k + 1, true, rfl, by go_num, by omega, fun _ => rfl, B3.out⟩
                    case measure => simp [intOf]; omega
                  | false =>
                    by_cases heq : E = x
                    · have he : (E == x) = true := by simp [heq]
                      clear heq
                      go_upto_region 22 with (fail)
                      go_quiet (fail)
                      have B3 := Lib.hid (below_drewN BL.out nq)
                      clear BL u0 x0 z0 z1
                      go_wp2_with (fail)
                      go_roundw
                      case rel => exact ⟨k + 1, true, rfl, by go_num, by omega, fun _ => rfl, B3.out⟩
                      case measure => simp [intOf]; omega
                    · have he : (E == x) = false := by simp [heq]
                      have HEQ := Lib.hid heq
                      clear heq
                      go_upto_region 22 with (fail)
                      go_quiet (fail)
                      have B3 := Lib.hid (below_drewN BL.out nq)
                      clear BL u0 x0 z0 z1
                      go_wp2_with (fail)
                      go_roundw
                      case rel => exact ⟨k + 1, false, rfl, by go_num, by omega, fun hx => by
                            rw [HT1.out] at hx
                            rcases List.mem_append.1 hx with c | c
                            · exact HKB.out c
                            · exact absurd (List.mem_singleton.1 c).symm HEQ.out, B3.out⟩
                      case measure => simp [intOf]; omega
                · have hkl' : ¬ (k : Int) < (own.length : Int) := by omega
                  have HB0 := Lib.hid (show x ∈ own → b = true from fun hx => HKB.out (by rw [List.take_of_length_le (by omega)]; exact hx))
                  clear HKB
                  go_upto_region 24 with (fail)
                  go_loopw [12, 14, 15] (fun bv kv _ wr => ∃ (k : Nat) (b : Bool), bv = .bool b ∧ kv = .int .i64 k ∧ k ≤ L.length ∧ (Pre own L of n x k → b = true) ∧ Below w2.heap.size w2 wr) (fun _ kv _ _ => L.length - (intOf kv).toNat)
                  case atStart => exact ⟨0, b, rfl, rfl, Nat.zero_le _, fun h => HB0.out (pre_zero h), BL.out⟩
                  case round =>
                    clear hkl hkl' k0 HB0 BL
                    obtain ⟨k, b, rfl, rfl, hk, hkb, bel⟩ := hrel
                    have k0 : (0 : Int) ≤ k := by omega
                    have BL := Lib.hid bel
                    have HKB := Lib.hid hkb
                    clear bel hkb
                    by_cases hkl : k < L.length
                    rotate_left
                    · obtain rfl : k = L.length := by omega
                      obtain rfl : b = true := HKB.out (pre_all HMX.out)
                      go_wp2_with (fail)
                      go_roundw
                      case rel => exact ⟨i + 1, by go_num, by omega, BL.out⟩
                      case measure => simp [intOf]; omega
                    have hkl' : (k : Int) < (L.length : Int) := by omega
                    rcases HRX.out with ⟨_, _, _, _, hl0⟩ | ⟨gx, ox, cpx, e, hgx, hhx⟩
                    · rw [hl0] at hkl; simp at hkl
                    cases e
                    obtain ⟨q0, q1, _, q3, _⟩ := hhx k hkl
                    have HRE := Lib.hid (HRC.out (L.getD k es0) (by rw [List.getD_eq_getElem?_getD, List.getElem?_eq_getElem hkl]; exact List.getElem_mem _))
                    have HPS := Lib.hid (fun h => pre_succ (own := own) (of := of) (n := n) (x := x) hkl h)
                    have hecl := HELC.out (L.getD k es0) (by rw [List.getD_eq_getElem?_getD, List.getElem?_eq_getElem hkl]; exact List.getElem_mem _)
                    clear hhx
                    generalize L.getD k es0 = E at *
                    obtain ⟨eo, ef, el, ea, ec, ecap, er⟩ := E
                    dsimp only at q0 q1 q3 HRE HPS hecl
                    have HECL := Lib.hid hecl
                    clear hecl
                    have Q0 := Lib.hid q0
                    have Q1 := Lib.hid q1
                    have Q3 := Lib.hid q3
                    clear q0 q1 q3
                    go_upto_region 27 with (fail)
                    go_loopw [12, 15] (fun bv jv wr => ∃ (j : Nat) (b : Bool), bv = .bool b ∧ jv = .int .i64 j ∧ j ≤ ec.length ∧ (Pre own L of n x k → b = true) ∧ (x ∈ ec.take j → b = true) ∧ Below w2.heap.size w2 wr) (fun _ jv _ => ec.length - (intOf jv).toNat)
                    case atStart => exact ⟨0, b, rfl, rfl, Nat.zero_le _, HKB.out, by simp, BL.out⟩
                    case round =>
                      clear HKB BL
                      obtain ⟨jj, b, rfl, rfl, hj, hkb, hjb, bel⟩ := hrel
                      have j0 : (0 : Int) ≤ jj := by omega
                      have BL := Lib.hid bel
                      have HKB := Lib.hid hkb
                      have HJB := Lib.hid hjb
                      clear bel hkb hjb
                      have q0 := bel_cell BL.out Q0.out
                      have q1 := bel_cell BL.out Q1.out
                      have q3 := bel_cell BL.out Q3.out
                      have yy1 := bel_cell BL.out y1.out
                      have yy2 := bel_cell BL.out y2.out
                      have z0 := World.block_lt_of_cell? _ _ q0
                      have z1 := World.block_lt_of_cell? _ _ yy1
                      by_cases h1 : eo = of
                      rotate_left
                      · have d1 : (eo == of) = false := by simp [h1]
                        have H1 := Lib.hid h1
                        clear h1
                        go_upto_region 27 with (fail)
                        go_quiet (fail)
                        have B3 := Lib.hid (below_drewN BL.out nq)
                        clear BL q0 q1 q3 yy1 yy2 z0 z1
                        go_wp2_with (fail)
                        go_roundw
                        case rel => exact ⟨k + 1, b, rfl, by go_num, by omega, fun h => (HPS.out h).elim HKB.out fun h => absurd h.1 H1.out, B3.out⟩
                        case measure => simp [intOf]; omega
                      have d1 : (eo == of) = true := by simp [h1]
                      clear h1
                      by_cases h2 : ef ≤ n
                      rotate_left
                      · have d2 : decide (ef ≤ n) = false := decide_eq_false h2
                        have H2 := Lib.hid h2
                        clear h2
                        go_upto_region 27 with (fail)
                        go_quiet (fail)
                        have B3 := Lib.hid (below_drewN BL.out nq)
                        clear BL q0 q1 q3 yy1 yy2 z0 z1
                        go_wp2_with (fail)
                        go_roundw
                        case rel => exact ⟨k + 1, b, rfl, by go_num, by omega, fun h => (HPS.out h).elim HKB.out fun h => absurd h.2.1 H2.out, B3.out⟩
                        case measure => simp [intOf]; omega
                      have d2 : decide (ef ≤ n) = true := decide_eq_true h2
                      clear h2
                      by_cases h3 : jj < ec.length
                      rotate_left
                      · have d3 : decide ((jj : Int) < (ec.length : Int)) = false := decide_eq_false (by omega)
                        have HJ3 := Lib.hid (show ec.take jj = ec from List.take_of_length_le (by omega))
                        have H3' : ¬ (jj : Int) < (ec.length : Int) := by omega
                        clear h3
                        go_upto_region 27 with (fail)
                        go_quiet (fail)
                        have B3 := Lib.hid (below_drewN BL.out nq)
                        clear BL q0 q1 q3 yy1 yy2 z0 z1
                        go_wp2_with (fail)
                        go_roundw
                        case rel => exact ⟨k + 1, b, rfl, by go_num, by omega, fun h => (HPS.out h).elim HKB.out fun h => HJB.out (by rw [HJ3.out]; exact h.2.2), B3.out⟩
                        case measure => simp [intOf]; omega
                      have h3' : (jj : Int) < (ec.length : Int) := by omega
                      have d3 : decide ((jj : Int) < (ec.length : Int)) = true := decide_eq_true h3'
                      go_upto_region 27 with (fail)
                      go_quiet (fail)
                      have B4 := Lib.hid (below_drewN BL.out nq)
                      clear BL q0 q1 q3 yy1 yy2 z0 z1 d1 d2 d3
                      generalize wr.drewN nq = wn at *
                      rcases HRE.out with ⟨_, _, _, _, hl0⟩ | ⟨ge, oe, cpe, e, hge, hhe⟩
                      · rw [hl0] at h3; simp at h3
                      cases e
                      have q3 := bel_cell B4.out Q3.out
                      have u0 := bel_cell B4.out (hhe jj h3)
                      have x0 := bel_cell B4.out HX.out
                      have HT1 := Lib.hid (take_succ_getD h3)
                      clear hhe
                      generalize ec.getD jj 0 = E at *
                      have z0 := World.block_lt_of_cell? _ _ u0
                      have z1 := World.block_lt_of_cell? _ _ x0
                      have z3 := World.block_lt_of_cell? _ _ q3
                      have hecl := HECL.out
                      cases b with
                      | true =>
                        go_upto_region 29 with (fail)
                        go_quiet (fail)
                        have B3 := Lib.hid (below_drewN B4.out nq)
                        clear B4 u0 x0 q3 z0 z1 z3
                        go_wp2_with (fail)
                        go_roundw
                        case rel => exact ⟨jj + 1, true, rfl, by go_num, by omega, fun _ => rfl, fun _ => rfl, B3.out⟩
                        case measure => simp [intOf]; omega
                      | false =>
                        by_cases heq : E = x
                        · have he : (E == x) = true := by simp [heq]
                          clear heq
                          go_upto_region 29 with (fail)
                          go_quiet (fail)
                          have B3 := Lib.hid (below_drewN B4.out nq)
                          clear B4 u0 x0 q3 z0 z1 z3
                          go_wp2_with (fail)
                          go_roundw
                          case rel => exact ⟨jj + 1, true, rfl, by go_num, by omega, fun _ => rfl, fun _ => rfl, B3.out⟩
                          case measure => simp [intOf]; omega
                        · have he : (E == x) = false := by simp [heq]
                          have HEQ := Lib.hid heq
                          clear heq
                          go_upto_region 29 with (fail)
                          go_quiet (fail)
                          have B3 := Lib.hid (below_drewN B4.out nq)
                          clear B4 u0 x0 q3 z0 z1 z3
                          go_wp2_with (fail)
                          go_roundw
                          case rel => exact ⟨jj + 1, false, rfl, by go_num, by omega, HKB.out, fun hx => by
                                rw [HT1.out] at hx
                                rcases List.mem_append.1 hx with c | c
                                · exact HJB.out c
                                · exact absurd (List.mem_singleton.1 c).symm HEQ.out, B3.out⟩
                          case measure => simp [intOf]; omega
        exact AllReadyH.nil
      exact AllReadyH.nil
end Go.Proofs.YtjffciejoahegaaDoor
