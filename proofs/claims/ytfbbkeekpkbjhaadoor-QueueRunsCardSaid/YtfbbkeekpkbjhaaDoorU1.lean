/- up, walked. -/
import Derived.Test.YtfbbkeekpkbjhaaDoorH1
import Derived.Test.YtfbbkeekpkbjhaaDoorR3
namespace Go.Proofs.YtfbbkeekpkbjhaaDoor
open Go.RowKit
section
variable {P : Program} {ops : Array Oper} {C : World → Prop} {Q : Act → Prop}
/-- One operation of a region that reads, or calls and leaves a world of the class. -/
theorem quiet_at {o : Oper} {rest : List Oper} {a : Act} {v : Value} (hw : Region.wanted o (yielded ops a.tmps) = true) (hv : ∀ w', C w' → o.quietAt P a C w' v) (h : wpQuiet P ops C Q rest (a.put o.dst v)) : wpQuiet P ops C Q (o :: rest) a := by
  rw [wpQuiet, if_pos hw]; exact ⟨v, hv, h⟩
theorem quiet_out {o : Oper} {rest : List Oper} {a : Act} (hw : Region.wanted o (yielded ops a.tmps) = false) (h : wpQuiet P ops C Q rest (a.put o.dst undef)) : wpQuiet P ops C Q (o :: rest) a := by
  rw [wpQuiet, hw]; exact h
theorem wp_quiet_class {id : Nat} {Q : Exit → Act → World → Prop} {a : Act} {w : World} {l : List Oper} (C : World → Prop) (hm : P.follows .mixedOrders = true) (hB : Region.lexB .any l.toArray = true) (hC : C w.drew)
    (h : wpQuiet P l.toArray C (fun a' => ∀ w', C w' → Q .normal a' w') l a) : (Code.region id l.toArray true).wp P Q a w := wp_region_quiet hm hB hC (by simpa using h)
end
set_option linter.unusedSimpArgs false in
set_option linter.unusedVariables false in
set_option maxRecDepth 100000 in
set_option maxHeartbeats 2000000 in
theorem up_walk (q r g cap n i : Nat) (room : Int) (f : Nat → Ev) (m : Int → Int → Option Nat) (w : World) (h : QRep w q r g cap room n f m) (hm : MapOk n f m) (hx : ExI n f i) (hi : i < n) (hn : n ≤ maxLen) :
    Calls Tryd.prog 21 #[.pointer (some ⟨q, 0, none⟩), .int .i64 i] w fun x w' => x = .returned (.tuple #[]) ∧ (∃ f' m' j, QRep w' q r g cap room n f' m' ∧ MapOk n f' m' ∧ DnI n f' j ∧ j < n ∧ f' j = f i ∧ Same n f f') ∧ QFr w w' q r g := by
  simp only [maxLen] at hn
  have H0 := Lib.hid h
  have HM0 := Lib.hid hm
  have HX0 := Lib.hid hx
  clear h hm hx
  go_enter Tryd.func21, Tryd.ntmps21
  go_upto_region 0 with (fail)
  go_loopw [1] (fun v wr => ∃ (f' : Nat → Ev) (m' : Int → Int → Option Nat) (j : Nat), v = .int .i64 j ∧ QRep wr q r g cap room n f' m' ∧ MapOk n f' m' ∧ ExI n f' j ∧ j < n ∧ f' j = f i ∧ Same n f f' ∧ QFr w wr q r g) (fun v _ => (intOf v).toNat)
  case atStart => exact ⟨f, m, i, rfl, H0.out, HM0.out, HX0.out, hi, rfl, Same.refl _ _, QFr.refl _ _ _ _⟩
  case round =>
    clear H0 HM0 HX0
    obtain ⟨f1, m1, j, rfl, h, hm, hx, hj, hfj, hs, hF⟩ := hrel
    by_cases hj0 : 0 < j
    · have c1 : wr.cell? ⟨q, 1, none⟩ = some (.slice (some ⟨g, 0, none⟩) n cap) := by rw [h.qb.cell]; rfl
      have zq := h.qb.lt
      have zg := h.hr.lt
      have ha : (j - 1) / 2 < n := by omega
      have hdiv : ((j : Int) - 1).tdiv 2 = (((j - 1) / 2 : Nat) : Int) := by rw [Int.tdiv_eq_ediv_of_nonneg (by omega)]; omega
      obtain ⟨x0, x1, x2⟩ := h.hr.cells ha
      obtain ⟨y0, y1, y2⟩ := h.hr.cells hj
      have DW := Lib.hid (fun w => due_walk (f1 ((j - 1) / 2)) (f1 j) w)
      have DN := Lib.hid (due_neg (f1 ((j - 1) / 2)) (f1 j))
      have SW := Lib.hid (fun w h => swap_walk q r g cap n j ((j - 1) / 2) room f1 m1 w h hj ha)
      have j0 : (0 : Int) < j := by omega
      have j1 : (j : Int) < n := by omega
      have H := Lib.hid h
      have HM := Lib.hid hm
      have HX := Lib.hid hx
      have HS := Lib.hid hs
      have UP := Lib.hid (ex_up hm hx hj0 hj)
      have HFJ := Lib.hid hfj
      clear h hm hx hs hfj
      generalize hA : (j - 1) / 2 = a at *
      have a0 : (0 : Int) ≤ a := by omega
      have a1 : (a : Int) < n := by omega
      go_upto_region 2 with (fail)
      go_cut [4, 25] from 5 to 30 (fun v4 v25 wx => v4 = .int .i64 a ∧ v25 = .bool (decide (dueF (f1 a) (f1 j) < 0)) ∧ Below wr.heap.size wr wx)
      case first =>
        unfold evV at DW
        refine wp_quiet_class (fun w' => Below wr.heap.size wr w') (by kernel_rfl) (by kernel_rfl) (below_drewN (Below.refl _ _) 1) ?_
        refine quiet_at (v := ?_) (by rfl) ?_ ?_
        rotate_left
        · intro w' hSw; replace c1 := bel_cell hSw c1; replace x0 := bel_cell hSw x0; replace x1 := bel_cell hSw x1; replace x2 := bel_cell hSw x2; replace y0 := bel_cell hSw y0; replace y1 := bel_cell hSw y1; replace y2 := bel_cell hSw y2; replace zq := Nat.lt_of_lt_of_le zq hSw.size; replace zg := Nat.lt_of_lt_of_le zg hSw.size; go_simp; try with_reducible rfl
        (try simp only [Act.put, List.setIfInBounds_toArray, List.set_cons_zero, List.set_cons_succ])
        refine quiet_at (v := ?_) (by rfl) ?_ ?_
        rotate_left
        · intro w' hSw; replace c1 := bel_cell hSw c1; replace x0 := bel_cell hSw x0; replace x1 := bel_cell hSw x1; replace x2 := bel_cell hSw x2; replace y0 := bel_cell hSw y0; replace y1 := bel_cell hSw y1; replace y2 := bel_cell hSw y2; replace zq := Nat.lt_of_lt_of_le zq hSw.size; replace zg := Nat.lt_of_lt_of_le zg hSw.size; go_simp; try with_reducible rfl
        (try simp only [Act.put, List.setIfInBounds_toArray, List.set_cons_zero, List.set_cons_succ])
        refine quiet_at (v := ?_) (by rfl) ?_ ?_
        rotate_left
        · intro w' hSw; replace c1 := bel_cell hSw c1; replace x0 := bel_cell hSw x0; replace x1 := bel_cell hSw x1; replace x2 := bel_cell hSw x2; replace y0 := bel_cell hSw y0; replace y1 := bel_cell hSw y1; replace y2 := bel_cell hSw y2; replace zq := Nat.lt_of_lt_of_le zq hSw.size; replace zg := Nat.lt_of_lt_of_le zg hSw.size; go_simp; try with_reducible rfl
        (try simp only [Act.put, List.setIfInBounds_toArray, List.set_cons_zero, List.set_cons_succ])
        refine quiet_at (v := ?_) (by rfl) ?_ ?_
        rotate_left
        · intro w' hSw; replace c1 := bel_cell hSw c1; replace x0 := bel_cell hSw x0; replace x1 := bel_cell hSw x1; replace x2 := bel_cell hSw x2; replace y0 := bel_cell hSw y0; replace y1 := bel_cell hSw y1; replace y2 := bel_cell hSw y2; replace zq := Nat.lt_of_lt_of_le zq hSw.size; replace zg := Nat.lt_of_lt_of_le zg hSw.size; go_simp; try with_reducible rfl
        (try simp only [Act.put, List.setIfInBounds_toArray, List.set_cons_zero, List.set_cons_succ])
        refine quiet_at (v := ?_) (by rfl) ?_ ?_
        rotate_left
        · intro w' hSw; replace c1 := bel_cell hSw c1; replace x0 := bel_cell hSw x0; replace x1 := bel_cell hSw x1; replace x2 := bel_cell hSw x2; replace y0 := bel_cell hSw y0; replace y1 := bel_cell hSw y1; replace y2 := bel_cell hSw y2; replace zq := Nat.lt_of_lt_of_le zq hSw.size; replace zg := Nat.lt_of_lt_of_le zg hSw.size; go_simp; try with_reducible rfl
        (try simp only [Act.put, List.setIfInBounds_toArray, List.set_cons_zero, List.set_cons_succ])
        refine quiet_at (v := ?_) (by rfl) ?_ ?_
        rotate_left
        · intro w' hSw; replace c1 := bel_cell hSw c1; replace x0 := bel_cell hSw x0; replace x1 := bel_cell hSw x1; replace x2 := bel_cell hSw x2; replace y0 := bel_cell hSw y0; replace y1 := bel_cell hSw y1; replace y2 := bel_cell hSw y2; replace zq := Nat.lt_of_lt_of_le zq hSw.size; replace zg := Nat.lt_of_lt_of_le zg hSw.size; go_simp; try with_reducible rfl
        (try simp only [Act.put, List.setIfInBounds_toArray, List.set_cons_zero, List.set_cons_succ])
        refine quiet_at (v := ?_) (by rfl) ?_ ?_
        rotate_left
        · intro w' hSw; replace c1 := bel_cell hSw c1; replace x0 := bel_cell hSw x0; replace x1 := bel_cell hSw x1; replace x2 := bel_cell hSw x2; replace y0 := bel_cell hSw y0; replace y1 := bel_cell hSw y1; replace y2 := bel_cell hSw y2; replace zq := Nat.lt_of_lt_of_le zq hSw.size; replace zg := Nat.lt_of_lt_of_le zg hSw.size; go_simp; try with_reducible rfl
        (try simp only [Act.put, List.setIfInBounds_toArray, List.set_cons_zero, List.set_cons_succ])
        refine quiet_at (v := ?_) (by rfl) ?_ ?_
        rotate_left
        · intro w' hSw; replace c1 := bel_cell hSw c1; replace x0 := bel_cell hSw x0; replace x1 := bel_cell hSw x1; replace x2 := bel_cell hSw x2; replace y0 := bel_cell hSw y0; replace y1 := bel_cell hSw y1; replace y2 := bel_cell hSw y2; replace zq := Nat.lt_of_lt_of_le zq hSw.size; replace zg := Nat.lt_of_lt_of_le zg hSw.size; go_simp; try with_reducible rfl
        (try simp only [Act.put, List.setIfInBounds_toArray, List.set_cons_zero, List.set_cons_succ])
        refine quiet_at (v := ?_) (by rfl) ?_ ?_
        rotate_left
        · intro w' hSw; replace c1 := bel_cell hSw c1; replace x0 := bel_cell hSw x0; replace x1 := bel_cell hSw x1; replace x2 := bel_cell hSw x2; replace y0 := bel_cell hSw y0; replace y1 := bel_cell hSw y1; replace y2 := bel_cell hSw y2; replace zq := Nat.lt_of_lt_of_le zq hSw.size; replace zg := Nat.lt_of_lt_of_le zg hSw.size; go_simp; try with_reducible rfl
        (try simp only [Act.put, List.setIfInBounds_toArray, List.set_cons_zero, List.set_cons_succ])
        refine quiet_at (v := ?_) (by rfl) ?_ ?_
        rotate_left
        · intro w' hSw; replace c1 := bel_cell hSw c1; replace x0 := bel_cell hSw x0; replace x1 := bel_cell hSw x1; replace x2 := bel_cell hSw x2; replace y0 := bel_cell hSw y0; replace y1 := bel_cell hSw y1; replace y2 := bel_cell hSw y2; replace zq := Nat.lt_of_lt_of_le zq hSw.size; replace zg := Nat.lt_of_lt_of_le zg hSw.size; go_simp; try with_reducible rfl
        (try simp only [Act.put, List.setIfInBounds_toArray, List.set_cons_zero, List.set_cons_succ])
        refine quiet_at (v := ?_) (by rfl) ?_ ?_
        rotate_left
        · intro w' hSw; replace c1 := bel_cell hSw c1; replace x0 := bel_cell hSw x0; replace x1 := bel_cell hSw x1; replace x2 := bel_cell hSw x2; replace y0 := bel_cell hSw y0; replace y1 := bel_cell hSw y1; replace y2 := bel_cell hSw y2; replace zq := Nat.lt_of_lt_of_le zq hSw.size; replace zg := Nat.lt_of_lt_of_le zg hSw.size; go_simp; try with_reducible rfl
        (try simp only [Act.put, List.setIfInBounds_toArray, List.set_cons_zero, List.set_cons_succ])
        refine quiet_at (v := ?_) (by rfl) ?_ ?_
        rotate_left
        · intro w' hSw; replace c1 := bel_cell hSw c1; replace x0 := bel_cell hSw x0; replace x1 := bel_cell hSw x1; replace x2 := bel_cell hSw x2; replace y0 := bel_cell hSw y0; replace y1 := bel_cell hSw y1; replace y2 := bel_cell hSw y2; replace zq := Nat.lt_of_lt_of_le zq hSw.size; replace zg := Nat.lt_of_lt_of_le zg hSw.size; go_simp; try with_reducible rfl
        (try simp only [Act.put, List.setIfInBounds_toArray, List.set_cons_zero, List.set_cons_succ])
        refine quiet_at (v := ?_) (by rfl) ?_ ?_
        rotate_left
        · intro w' hSw; replace c1 := bel_cell hSw c1; replace x0 := bel_cell hSw x0; replace x1 := bel_cell hSw x1; replace x2 := bel_cell hSw x2; replace y0 := bel_cell hSw y0; replace y1 := bel_cell hSw y1; replace y2 := bel_cell hSw y2; replace zq := Nat.lt_of_lt_of_le zq hSw.size; replace zg := Nat.lt_of_lt_of_le zg hSw.size; go_simp; try with_reducible rfl
        (try simp only [Act.put, List.setIfInBounds_toArray, List.set_cons_zero, List.set_cons_succ])
        refine quiet_at (v := ?_) (by rfl) ?_ ?_
        rotate_left
        · intro w' hSw; replace c1 := bel_cell hSw c1; replace x0 := bel_cell hSw x0; replace x1 := bel_cell hSw x1; replace x2 := bel_cell hSw x2; replace y0 := bel_cell hSw y0; replace y1 := bel_cell hSw y1; replace y2 := bel_cell hSw y2; replace zq := Nat.lt_of_lt_of_le zq hSw.size; replace zg := Nat.lt_of_lt_of_le zg hSw.size; go_simp; try with_reducible rfl
        (try simp only [Act.put, List.setIfInBounds_toArray, List.set_cons_zero, List.set_cons_succ])
        refine quiet_at (v := .int .i64 (dueF (f1 a) (f1 j))) (by rfl) (fun w' hSw => ?_) ?_
        · replace c1 := bel_cell hSw c1; replace x0 := bel_cell hSw x0; replace x1 := bel_cell hSw x1; replace x2 := bel_cell hSw x2; replace y0 := bel_cell hSw y0; replace y1 := bel_cell hSw y1; replace y2 := bel_cell hSw y2; replace zq := Nat.lt_of_lt_of_le zq hSw.size; replace zg := Nat.lt_of_lt_of_le zg hSw.size; go_simp; exact ((DW.out _).mono fun e w2 h => ⟨h.1, below_trans hSw h.2⟩)
        (try simp only [Act.put, List.setIfInBounds_toArray, List.set_cons_zero, List.set_cons_succ])
        refine quiet_at (v := ?_) (by rfl) ?_ ?_
        rotate_left
        · intro w' hSw; replace c1 := bel_cell hSw c1; replace x0 := bel_cell hSw x0; replace x1 := bel_cell hSw x1; replace x2 := bel_cell hSw x2; replace y0 := bel_cell hSw y0; replace y1 := bel_cell hSw y1; replace y2 := bel_cell hSw y2; replace zq := Nat.lt_of_lt_of_le zq hSw.size; replace zg := Nat.lt_of_lt_of_le zg hSw.size; go_simp; try with_reducible rfl
        (try simp only [Act.put, List.setIfInBounds_toArray, List.set_cons_zero, List.set_cons_succ])
        refine wpQuiet_nil ?_
        intro wq hSq
        go_wp2_with (fail)
        go_meet
        exact ⟨rfl, rfl, hSq⟩
      case rest =>
        obtain ⟨rfl, rfl, hB⟩ := hcut
        clear c1 x0 x1 x2 y0 y1 y2 zq zg DW
        have h2 := H.out.below hB
        have F2 := hF.trans (QFr.of_below hB)
        by_cases hlt : ltE (f1 a) (f1 j)
        · have d : decide (dueF (f1 a) (f1 j) < 0) = true := decide_eq_true (DN.out.2 hlt)
          rw [d]
          clear d DN
          have HD := Lib.hid (show DnI n f1 j from ⟨HX.out, fun _ => by rw [hA]; exact hlt⟩)
          go_wp2
          exact bodyPost_ret (results_none rfl _ _ _) rfl ⟨rfl, ⟨f1, m1, j, h2, HM.out, HD.out, hj, HFJ.out, HS.out⟩, F2⟩
        · have d : decide (dueF (f1 a) (f1 j) < 0) = false := decide_eq_false (fun e => hlt (DN.out.1 e))
          rw [d]
          clear d DN
          have HU := Lib.hid (UP.out hlt)
          go_wp2_with (fail)
          refine (SW.out _ h2).mono ?_
          rintro e w3 ⟨rfl, h3, F3⟩
          have hm3 := HM.out.swap hj ha
          have hs3 := HS.out.trans (same_swp hj ha)
          go_wp2_with (fail)
          go_roundw
          case rel => exact ⟨swp f1 j a, _, a, by first | rfl | go_num, h3, hm3, HU.out, ha, by rw [swp_k]; exact HFJ.out, hs3, F2.trans F3⟩
          case measure => simp [intOf]; omega
    · obtain rfl : j = 0 := by omega
      go_wp2
      exact bodyPost_end (results_none rfl _ _ _) rfl ⟨rfl, ⟨f1, m1, 0, h, hm, ⟨hx, fun h => by omega⟩, hj, hfj, hs⟩, hF⟩
end Go.Proofs.YtfbbkeekpkbjhaaDoor
