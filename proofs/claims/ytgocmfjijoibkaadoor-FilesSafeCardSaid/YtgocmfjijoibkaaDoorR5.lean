/- The document's Do. -/
import Derived.Test.YtgocmfjijoibkaaDoorR4
namespace Go.Proofs.YtgocmfjijoibkaaDoor
open Go.RowKit
set_option linter.unusedSimpArgs false
set_option linter.unusedVariables false
set_option linter.unusedVariables false
theorem FilesSaid.trans {w w1 w2 : World} {X : List Fl} {y : Ending} (hb : Below w.heap.size w w1) (h : FilesSaid w1.heap.size X w1 y w2) : FilesSaid w.heap.size X w y w2 := by
  obtain ⟨v, e, h1, h2⟩ := h
  exact ⟨v, e, owns_mono2 h1 hb.size, below_trans hb h2⟩
set_option maxHeartbeats 8000000 in
set_option maxRecDepth 100000 in
theorem docdo_walk (v : Value) (F : List Fl) (n t b : List UInt8) (sv : Value) (wr rm : Bool) (w : World) (h : RdF w v F) (hF64 : F.length ≤ 64) (hm : wr = false → rm = false → (lookF F n).isSome = true) :
    Calls Tryd.prog 44 #[v, .agg #[.int .i64 (kindS ⟨⟨n.toArray⟩, ⟨t.toArray⟩, sv, b, wr, rm⟩), .string ⟨n.toArray⟩, .string ⟨t.toArray⟩, .string ⟨b.toArray⟩]] w (FilesSaid w.heap.size (doF F ⟨⟨n.toArray⟩, ⟨t.toArray⟩, sv, b, wr, rm⟩) w) := by
  generalize hk : kindS ⟨⟨n.toArray⟩, ⟨t.toArray⟩, sv, b, wr, rm⟩ = k
  have hB1 := (Below.refl w.heap.size w).alloc (Nat.le_refl _) (.cells #[.int .i64 k, .string ⟨n.toArray⟩, .string ⟨t.toArray⟩, .string ⟨b.toArray⟩] 79)
  have hbx := Blk.new w 79 #[.int .i64 k, .string ⟨n.toArray⟩, .string ⟨t.toArray⟩, .string ⟨b.toArray⟩]
  obtain ⟨A, cap, rfl⟩ := h.form
  have HR := Lib.hid (h.kept (KeptY.below hB1))
  have c0 : (w.alloc (.cells #[.int .i64 k, .string ⟨n.toArray⟩, .string ⟨t.toArray⟩, .string ⟨b.toArray⟩] 79)).cell? ⟨w.heap.size, 0, none⟩ = some (.int .i64 k) := by rw [hbx.cell]; rfl
  have c1 : (w.alloc (.cells #[.int .i64 k, .string ⟨n.toArray⟩, .string ⟨t.toArray⟩, .string ⟨b.toArray⟩] 79)).cell? ⟨w.heap.size, 1, none⟩ = some (.string ⟨n.toArray⟩) := by rw [hbx.cell]; rfl
  have c2 : (w.alloc (.cells #[.int .i64 k, .string ⟨n.toArray⟩, .string ⟨t.toArray⟩, .string ⟨b.toArray⟩] 79)).cell? ⟨w.heap.size, 2, none⟩ = some (.string ⟨t.toArray⟩) := by rw [hbx.cell]; rfl
  have c3 : (w.alloc (.cells #[.int .i64 k, .string ⟨n.toArray⟩, .string ⟨t.toArray⟩, .string ⟨b.toArray⟩] 79)).cell? ⟨w.heap.size, 3, none⟩ = some (.string ⟨b.toArray⟩) := by rw [hbx.cell]; rfl
  have zb := hbx.lt
  have HB1 := Lib.hid hB1
  clear h hbx hB1
  cases wr with
  | true =>
    have HD := Lib.hid (show doF F ⟨⟨n.toArray⟩, ⟨t.toArray⟩, sv, b, true, rm⟩ = withF F (n, b) from rfl)
    have hk0 : k = 0 := by rw [← hk]; rfl
    subst hk0
    clear hk hm
    go_enter Tryd.func44, Tryd.ntmps44
    go_upto_region 3 with (fail)
    generalize w.alloc (.cells #[.int .i64 0, .string ⟨n.toArray⟩, .string ⟨t.toArray⟩, .string ⟨b.toArray⟩] 79) = w1 at *
    have WW := with_walk _ F (n, b) w1 HR.out hF64
    go_wp2_with (fail)
    refine Calls.mono WW ?_
    rintro y w2 hs
    have HS := Lib.hid (FilesSaid.trans HB1.out hs)
    obtain ⟨v2, rfl, _⟩ := hs
    clear WW
    go_wp2_with (fail)
    go_ret
    rw [HD.out]
    exact HS.out
  | false =>
    cases rm with
    | true =>
      have HD := Lib.hid (show doF F ⟨⟨n.toArray⟩, ⟨t.toArray⟩, sv, b, false, true⟩ = withoutF F n from rfl)
      have hk0 : k = 2 := by rw [← hk]; rfl
      subst hk0
      clear hk hm
      go_enter Tryd.func44, Tryd.ntmps44
      go_upto_region 7 with (fail)
      generalize w.alloc (.cells #[.int .i64 2, .string ⟨n.toArray⟩, .string ⟨t.toArray⟩, .string ⟨b.toArray⟩] 79) = w1 at *
      have WW := without_walk _ F n w1 HR.out hF64
      go_wp2_with (fail)
      refine Calls.mono WW ?_
      rintro y w2 hs
      have HS := Lib.hid (FilesSaid.trans HB1.out hs)
      obtain ⟨v2, rfl, _⟩ := hs
      clear WW
      go_wp2_with (fail)
      go_ret
      rw [HD.out]
      exact HS.out
    | false =>
      have hlk := hm rfl rfl
      have HD := Lib.hid (show doF F ⟨⟨n.toArray⟩, ⟨t.toArray⟩, sv, b, false, false⟩ = withF (withoutF F n) (t, (lookF F n).getD []) from rfl)
      have hk0 : k = 1 := by rw [← hk]; rfl
      subst hk0
      clear hk hm
      go_enter Tryd.func44, Tryd.ntmps44
      go_upto_region 5 with (fail)
      generalize w.alloc (.cells #[.int .i64 1, .string ⟨n.toArray⟩, .string ⟨t.toArray⟩, .string ⟨b.toArray⟩] 79) = w1 at *
      have FW := find_walk _ F n w1 HR.out hF64
      go_wp2_with (fail)
      refine Calls.mono FW ?_
      rintro y w2 ⟨r, rfl, rfl, hr⟩
      obtain ⟨q, f, rfl, hq, _, hl⟩ : ∃ (q : Nat) (f : Fl), r = q ∧ F[q]? = some f ∧ f.1 = n ∧ lookF F n = some f.2 := by
        rcases hr with ⟨_, hn⟩ | h
        · rw [hn] at hlk; cases hlk
        · exact h
      have hqF := (List.getElem?_eq_some_iff.1 hq).1
      have hqF' : (q : Int) < (F.length : Int) := by omega
      have q0 : (0 : Int) ≤ q := by omega
      obtain ⟨gF, rfl, e0, e1, zF⟩ := HR.out.at_ hq
      have HD2 := Lib.hid (show (lookF F n).getD [] = f.2 by rw [hl]; rfl)
      clear FW hr hq hl hlk
      go_upto_region 6 with (fail)
      have HWO := Lib.hid (fun (w' : World) (hb : Below w2.heap.size w2 w') => without_walk (.slice (some ⟨gF, 0, none⟩) F.length cap) F n w' (HR.out.kept (KeptY.below hb)) hF64)
      have HWI := Lib.hid (fun (w' : World) (v3 : Value) (h3 : RdF w' v3 (withoutF F n)) (hb : Below w2.heap.size w2 w') => with_walk v3 (withoutF F n) (t, f.2) w' h3 (Nat.le_trans (without_le _ _) hF64))
      refine wp_region_noPanic ?_
      refine wp_region_held_drew (S := (fun w' => Below w2.heap.size w2 w')) (by kernel_rfl) ?_ (fun hHeld => ?_)
      · exact below_drewN (Below.refl _ _) 1
      refine reg_take (i := 0) (oi := _) (v := ?_) rfl (by kernel_rfl) (by kernel_rfl) (by kernel_rfl) (fun _ _ _ h => h) (by rfl) ?_ (by assumption) ?_
      rotate_left
      · intro w hSw; (try dsimp only at hSw); replace c1 := bel_cell hSw c1; replace c2 := bel_cell hSw c2; replace zb := Nat.lt_of_lt_of_le zb hSw.size; go_simp; try with_reducible rfl
      (try simp only [Act.put, List.setIfInBounds_toArray, List.set_cons_zero, List.set_cons_succ])
      refine reg_take (i := 1) (oi := _) (v := ?_) rfl (by kernel_rfl) (by kernel_rfl) (by kernel_rfl) (fun _ _ _ h => h) (by rfl) ?_ (by assumption) ?_
      rotate_left
      · intro w hSw; (try dsimp only at hSw); replace c1 := bel_cell hSw c1; replace c2 := bel_cell hSw c2; replace zb := Nat.lt_of_lt_of_le zb hSw.size; go_simp; try with_reducible rfl
      (try simp only [Act.put, List.setIfInBounds_toArray, List.set_cons_zero, List.set_cons_succ])
      refine reg_take (i := 2) (oi := _) (v := ?_) rfl (by kernel_rfl) (by kernel_rfl) (by kernel_rfl) (fun _ _ _ h => h) (by rfl) ?_ (by assumption) ?_
      rotate_left
      · intro w hSw; (try dsimp only at hSw); replace c1 := bel_cell hSw c1; replace c2 := bel_cell hSw c2; replace zb := Nat.lt_of_lt_of_le zb hSw.size; go_simp; try with_reducible rfl
      (try simp only [Act.put, List.setIfInBounds_toArray, List.set_cons_zero, List.set_cons_succ])
      refine reg_take (i := 4) (oi := _) (v := ?_) rfl (by kernel_rfl) (by kernel_rfl) (by kernel_rfl) (fun _ _ _ h => h) (by rfl) ?_ (by assumption) ?_
      rotate_left
      · intro w hSw; (try dsimp only at hSw); replace c1 := bel_cell hSw c1; replace c2 := bel_cell hSw c2; replace zb := Nat.lt_of_lt_of_le zb hSw.size; go_simp; try with_reducible rfl
      (try simp only [Act.put, List.setIfInBounds_toArray, List.set_cons_zero, List.set_cons_succ])
      refine reg_take (i := 5) (oi := _) (v := ?_) rfl (by kernel_rfl) (by kernel_rfl) (by kernel_rfl) (fun _ _ _ h => h) (by rfl) ?_ (by assumption) ?_
      rotate_left
      · intro w hSw; (try dsimp only at hSw); replace c1 := bel_cell hSw c1; replace c2 := bel_cell hSw c2; replace zb := Nat.lt_of_lt_of_le zb hSw.size; go_simp; try with_reducible rfl
      (try simp only [Act.put, List.setIfInBounds_toArray, List.set_cons_zero, List.set_cons_succ])
      refine reg_take (i := 6) (oi := _) (v := ?_) rfl (by kernel_rfl) (by kernel_rfl) (by kernel_rfl) (fun _ _ _ h => h) (by rfl) ?_ (by assumption) ?_
      rotate_left
      · intro w hSw; (try dsimp only at hSw); replace c1 := bel_cell hSw c1; replace c2 := bel_cell hSw c2; replace zb := Nat.lt_of_lt_of_le zb hSw.size; go_simp; try with_reducible rfl
      (try simp only [Act.put, List.setIfInBounds_toArray, List.set_cons_zero, List.set_cons_succ])
      refine reg_take (i := 7) (oi := _) (v := ?_) rfl (by kernel_rfl) (by kernel_rfl) (by kernel_rfl) (fun _ _ _ h => h) (by rfl) ?_ (by assumption) ?_
      rotate_left
      · intro w hSw; (try dsimp only at hSw); replace c1 := bel_cell hSw c1; replace c2 := bel_cell hSw c2; replace zb := Nat.lt_of_lt_of_le zb hSw.size; go_simp; try with_reducible rfl
      (try simp only [Act.put, List.setIfInBounds_toArray, List.set_cons_zero, List.set_cons_succ])
      refine wpAnyH_ready (rs := [3]) (by kernel_rfl) (by simp) ?_
      refine reg_each (o := _) rfl (fun K hK => ?_) ?_
      · skip
        go_simp
        refine (HWO.out _ hHeld).mono ?_
        rintro y w3 ⟨v3, rfl, hr3, hb3⟩
        have H3 := Lib.hid (And.intro hr3 (below_trans hHeld hb3))
        clear hr3 hb3
        go_wp2_with (fail)
        refine hK.out _ _ ?_ (fun hHeld2 => ?_)
        · exact H3.out.2
        clear hK K hHeld
        have hHeld := hHeld2
        clear hHeld2
        (try simp only [Act.put, List.setIfInBounds_toArray, List.set_cons_zero, List.set_cons_succ])
        refine wpAnyH_ready (rs := [8]) (by kernel_rfl) (by simp) ?_
        refine reg_each (o := _) rfl (fun K hK => ?_) ?_
        · skip
          go_simp
          refine (HWI.out _ _ (RdF.of_owns H3.out.1) hHeld).mono ?_
          rintro y w4 hs4
          have HS := Lib.hid (FilesSaid.trans HB1.out (FilesSaid.trans hHeld hs4))
          obtain ⟨v4, rfl, _, hb4⟩ := hs4
          have H4 := Lib.hid (below_trans hHeld hb4)
          clear hb4
          go_wp2_with (fail)
          refine hK.out _ _ ?_ (fun hHeld2 => ?_)
          · exact H4.out
          clear hK K hHeld
          have hHeld := hHeld2
          clear hHeld2
          (try simp only [Act.put, List.setIfInBounds_toArray, List.set_cons_zero, List.set_cons_succ])
          refine reg_take (i := 9) (oi := _) (v := ?_) rfl (by kernel_rfl) (by kernel_rfl) (by kernel_rfl) (fun _ _ _ h => h) (by rfl) ?_ (by assumption) ?_
          rotate_left
          · intro w hSw; (try dsimp only at hSw); replace c1 := bel_cell hSw c1; replace c2 := bel_cell hSw c2; replace zb := Nat.lt_of_lt_of_le zb hSw.size; go_simp; try with_reducible rfl
          (try simp only [Act.put, List.setIfInBounds_toArray, List.set_cons_zero, List.set_cons_succ])
          refine wpAnyH_done (by kernel_rfl) ?_ _
          refine NoPanic.normal ?_
          have HS2 := HS
          clear HWO HWI hHeld
          go_wp2_with (fail)
          go_ret
          rw [HD.out, HD2.out]
          exact HS2.out
        exact AllReadyH.nil
      exact AllReadyH.nil
end Go.Proofs.YtgocmfjijoibkaaDoor
