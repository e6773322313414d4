/- down, walked. -/
import Derived.Test.YtfbbkeekpkbjhaaDoorU1
namespace Go.Proofs.YtfbbkeekpkbjhaaDoor
open Go.RowKit
/-- l is the least of j and of its first t children. -/
def Lst (n : Nat) (f : Nat → Ev) (j t l : Nat) : Prop := l < n ∧ (l = j ∨ (2 * j + 1 ≤ l ∧ l < 2 * j + 1 + t)) ∧ (∀ c, c < n → 2 * j + 1 ≤ c → c < 2 * j + 1 + t → ¬ ltE (f c) (f l)) ∧ (l ≠ j → ltE (f l) (f j))
theorem Lst.start {n : Nat} {f : Nat → Ev} {j : Nat} (h : j < n) : Lst n f j 0 j := ⟨h, Or.inl rfl, fun c _ h1 h2 => by omega, fun h => absurd rfl h⟩
theorem Lst.take {n : Nat} {f : Nat → Ev} {j t l : Nat} (h : Lst n f j t l) (hc : 2 * j + 1 + t < n) (hl : ltE (f (2 * j + 1 + t)) (f l)) : Lst n f j (t + 1) (2 * j + 1 + t) := by
  refine ⟨hc, Or.inr (by omega), fun c hc' h1 h2 hlt => ?_, fun _ => ?_⟩
  · by_cases e : c = 2 * j + 1 + t
    · subst e; exact ltE_asymm hlt hlt
    · exact h.2.2.1 c hc' h1 (by omega) (ltE_trans hlt hl)
  · by_cases e : l = j
    · rw [e] at hl; exact hl
    · exact ltE_trans hl (h.2.2.2 e)
theorem Lst.keep {n : Nat} {f : Nat → Ev} {j t l : Nat} (h : Lst n f j t l) (hc : 2 * j + 1 + t < n → ¬ ltE (f (2 * j + 1 + t)) (f l)) : Lst n f j (t + 1) l :=
  ⟨h.1, by have := h.2.1; omega, fun c hc' h1 h2 => by
    by_cases e : c = 2 * j + 1 + t
    · subst e; exact hc hc'
    · exact h.2.2.1 c hc' h1 (by omega), h.2.2.2⟩
theorem ltE_irrefl (a : Ev) : ¬ ltE a a := fun h => ltE_asymm h h
theorem lst_end {n : Nat} {f : Nat → Ev} {m : Int → Int → Option Nat} {j : Nat} (hm : MapOk n f m) (hd : DnI n f j) (h : Lst n f j 2 j) : Ord n f :=
  dn_end hm hd (fun hc => h.2.2.1 _ hc (by omega) (by omega)) (fun hc => h.2.2.1 _ hc (by omega) (by omega))
theorem lst_step {n : Nat} {f : Nat → Ev} {m : Int → Int → Option Nat} {j l : Nat} (hm : MapOk n f m) (hd : DnI n f j) (hj : j < n) (h : Lst n f j 2 l) (hlj : l ≠ j) : DnI n (swp f j l) l :=
  dn_step hm hd hj h.1 (by have := h.2.1; omega) (h.2.2.2 hlj) (fun c hc hcc => h.2.2.1 c hc (by omega) (by omega))
theorem idx_run (a b : Int) (t : Nat) (ht : t < 2) (w : World) : (Instr.index 71 (.agg #[.int .i64 a, .int .i64 b]) (.int .i64 t)).run Tryd.prog w = .ok (.int .i64 (if t = 0 then a else b)) w := by
  rcases (by omega : t = 0 ∨ t = 1) with rfl | rfl
  · kernel_rfl
  · kernel_rfl
attribute [local irreducible] wpQuiet
set_option linter.unusedSimpArgs false in
set_option linter.unusedVariables false in
set_option maxRecDepth 100000 in
set_option maxHeartbeats 1000000 in
theorem down_walk (q r g cap n i : Nat) (room : Int) (f : Nat → Ev) (m : Int → Int → Option Nat) (w : World) (h : QRep w q r g cap room n f m) (hm : MapOk n f m) (hx : DnI n f i) (hi : i < n) (hn : n ≤ 65536) :
    Calls Tryd.prog 22 #[.pointer (some ⟨q, 0, none⟩), .int .i64 i] w fun x w' => x = .returned (.tuple #[]) ∧ (∃ f' m', QRep w' q r g cap room n f' m' ∧ MapOk n f' m' ∧ Ord n f' ∧ Same n f f') ∧ QFr w w' q r g := by
  have H0 := Lib.hid h
  have HM0 := Lib.hid hm
  have HX0 := Lib.hid hx
  clear h hm hx
  go_enter Tryd.func22, Tryd.ntmps22
  go_upto_region 0 with (fail)
  go_loopw [1] (fun v wr => ∃ (f' : Nat → Ev) (m' : Int → Int → Option Nat) (j : Nat), v = .int .i64 j ∧ QRep wr q r g cap room n f' m' ∧ MapOk n f' m' ∧ DnI n f' j ∧ j < n ∧ Same n f f' ∧ QFr w wr q r g) (fun v _ => n - (intOf v).toNat)
  case atStart => exact ⟨f, m, i, rfl, H0.out, HM0.out, HX0.out, hi, Same.refl _ _, QFr.refl _ _ _ _⟩
  case round =>
    clear H0 HM0 HX0
    obtain ⟨f1, m1, j, rfl, h, hm, hx, hj, hs, hF⟩ := hrel
    have H := Lib.hid h
    have HM := Lib.hid hm
    have HX := Lib.hid hx
    have HS := Lib.hid hs
    have HST := Lib.hid (Lst.start (f := f1) hj)
    have j0 : (0 : Int) ≤ j := by omega
    have w1 : IntKind.i64.wrap (2 * (j : Int)) = 2 * j := by rw [IntKind.wrap_i64]; omega
    have w2 : IntKind.i64.wrap (2 * (j : Int) + 1) = 2 * j + 1 := by rw [IntKind.wrap_i64]; omega
    have w3 : IntKind.i64.wrap (2 * (j : Int) + 2) = 2 * j + 2 := by rw [IntKind.wrap_i64]; omega
    clear h hm hx hs
    go_upto_region 2 with (fail)
    generalize hP : wr = P at *
    clear hP
    go_loopw [15, 4] (fun tv lv wr => ∃ (t l : Nat), t ≤ 2 ∧ tv = .int .i64 t ∧ lv = .int .i64 l ∧ Lst n f1 j t l ∧ QRep wr q r g cap room n f1 m1 ∧ QFr w wr q r g) (fun tv _ _ => 2 - (intOf tv).toNat)
    case atStart => exact ⟨0, j, by omega, rfl, rfl, HST.out, H.out, hF⟩
    case round =>
      clear H HST hF
      obtain ⟨t, l, ht, rfl, rfl, hL, h, hF⟩ := hrel
      have c1 : wr.cell? ⟨q, 1, none⟩ = some (.slice (some ⟨g, 0, none⟩) n cap) := by rw [h.qb.cell]; rfl
      have zq := h.qb.lt
      have zg := h.hr.lt
      by_cases ht2 : t < 2
      · have hidx : ∀ w, (Instr.index 71 (.agg #[.int .i64 (2 * (j : Int) + 1), .int .i64 (2 * (j : Int) + 2)]) (.int .i64 t)).run Tryd.prog w = .ok (.int .i64 ((2 * j + 1 + t : Nat) : Int)) w := fun w => by
          rw [idx_run _ _ t ht2]
          rcases (by omega : t = 0 ∨ t = 1) with rfl | rfl <;> rfl
        have t0 : (0 : Int) ≤ t := by omega
        have t2 : (t : Int) < 2 := by omega
        have hc2 : 2 * j + 1 + t ≤ 2 * j + 2 := by omega
        have LT := Lib.hid hL.take
        have LK := Lib.hid hL.keep
        have hln := hL.1
        have H := Lib.hid h
        clear hL
        generalize hc : 2 * j + 1 + t = c at *
        have cc0 : (0 : Int) ≤ c := by omega
        go_upto_region 4 with (fail)
        go_cut [15, 42] from 15 to 44 (fun v15 v42 wx => v15 = .int .i64 t ∧ v42 = .bool (decide (c < n ∧ ltE (f1 c) (f1 l))) ∧ Below wr.heap.size wr wx)
        case first =>
          by_cases hcn : c < n
          · obtain ⟨x0, x1, x2⟩ := h.hr.cells hcn
            obtain ⟨y0, y1, y2⟩ := h.hr.cells hln
            have cn : (c : Int) < n := by omega
            have ln : (l : Int) < n := by omega
            have l0 : (0 : Int) ≤ l := by omega
            have DW := Lib.hid (fun w => due_walk (f1 c) (f1 l) w)
            have DV := Lib.hid (show decide (dueF (f1 c) (f1 l) < 0) = decide (c < n ∧ ltE (f1 c) (f1 l)) from decide_eq_decide.2 ⟨fun h => ⟨hcn, (due_neg _ _).1 h⟩, fun h => (due_neg _ _).2 h.2⟩)
            clear h
            unfold evV at DW
            refine wp_quiet_class (fun w' => Below wr.heap.size wr w') (by kernel_rfl) (by kernel_rfl) (below_drewN (Below.refl _ _) 1) ?_
            refine quiet_at (v := ?_) (by rfl) ?_ ?_
            rotate_left
            · intro w' hSw; replace c1 := bel_cell hSw c1; replace x0 := bel_cell hSw x0; replace x1 := bel_cell hSw x1; replace x2 := bel_cell hSw x2; replace y0 := bel_cell hSw y0; replace y1 := bel_cell hSw y1; replace y2 := bel_cell hSw y2; replace zq := Nat.lt_of_lt_of_le zq hSw.size; replace zg := Nat.lt_of_lt_of_le zg hSw.size; go_simp; try with_reducible rfl
            (try simp only [Act.put, List.setIfInBounds_toArray, List.set_cons_zero, List.set_cons_succ])
            refine quiet_at (v := ?_) (by rfl) ?_ ?_
            rotate_left
            · intro w' hSw; replace c1 := bel_cell hSw c1; replace x0 := bel_cell hSw x0; replace x1 := bel_cell hSw x1; replace x2 := bel_cell hSw x2; replace y0 := bel_cell hSw y0; replace y1 := bel_cell hSw y1; replace y2 := bel_cell hSw y2; replace zq := Nat.lt_of_lt_of_le zq hSw.size; replace zg := Nat.lt_of_lt_of_le zg hSw.size; go_simp; try with_reducible rfl
            (try simp only [Act.put, List.setIfInBounds_toArray, List.set_cons_zero, List.set_cons_succ])
            refine quiet_at (v := ?_) (by rfl) ?_ ?_
            rotate_left
            · intro w' hSw; replace c1 := bel_cell hSw c1; replace x0 := bel_cell hSw x0; replace x1 := bel_cell hSw x1; replace x2 := bel_cell hSw x2; replace y0 := bel_cell hSw y0; replace y1 := bel_cell hSw y1; replace y2 := bel_cell hSw y2; replace zq := Nat.lt_of_lt_of_le zq hSw.size; replace zg := Nat.lt_of_lt_of_le zg hSw.size; go_simp; try with_reducible rfl
            (try simp only [Act.put, List.setIfInBounds_toArray, List.set_cons_zero, List.set_cons_succ])
            refine quiet_at (v := ?_) (by rfl) ?_ ?_
            rotate_left
            · intro w' hSw; replace c1 := bel_cell hSw c1; replace x0 := bel_cell hSw x0; replace x1 := bel_cell hSw x1; replace x2 := bel_cell hSw x2; replace y0 := bel_cell hSw y0; replace y1 := bel_cell hSw y1; replace y2 := bel_cell hSw y2; replace zq := Nat.lt_of_lt_of_le zq hSw.size; replace zg := Nat.lt_of_lt_of_le zg hSw.size; go_simp; try with_reducible rfl
            (try simp only [Act.put, List.setIfInBounds_toArray, List.set_cons_zero, List.set_cons_succ])
            refine quiet_at (v := ?_) (by rfl) ?_ ?_
            rotate_left
            · intro w' hSw; replace c1 := bel_cell hSw c1; replace x0 := bel_cell hSw x0; replace x1 := bel_cell hSw x1; replace x2 := bel_cell hSw x2; replace y0 := bel_cell hSw y0; replace y1 := bel_cell hSw y1; replace y2 := bel_cell hSw y2; replace zq := Nat.lt_of_lt_of_le zq hSw.size; replace zg := Nat.lt_of_lt_of_le zg hSw.size; go_simp; try with_reducible rfl
            (try simp only [Act.put, List.setIfInBounds_toArray, List.set_cons_zero, List.set_cons_succ])
            refine quiet_at (v := ?_) (by rfl) ?_ ?_
            rotate_left
            · intro w' hSw; replace c1 := bel_cell hSw c1; replace x0 := bel_cell hSw x0; replace x1 := bel_cell hSw x1; replace x2 := bel_cell hSw x2; replace y0 := bel_cell hSw y0; replace y1 := bel_cell hSw y1; replace y2 := bel_cell hSw y2; replace zq := Nat.lt_of_lt_of_le zq hSw.size; replace zg := Nat.lt_of_lt_of_le zg hSw.size; go_simp; try with_reducible rfl
            (try simp only [Act.put, List.setIfInBounds_toArray, List.set_cons_zero, List.set_cons_succ])
            refine quiet_at (v := ?_) (by rfl) ?_ ?_
            rotate_left
            · intro w' hSw; replace c1 := bel_cell hSw c1; replace x0 := bel_cell hSw x0; replace x1 := bel_cell hSw x1; replace x2 := bel_cell hSw x2; replace y0 := bel_cell hSw y0; replace y1 := bel_cell hSw y1; replace y2 := bel_cell hSw y2; replace zq := Nat.lt_of_lt_of_le zq hSw.size; replace zg := Nat.lt_of_lt_of_le zg hSw.size; go_simp; try with_reducible rfl
            (try simp only [Act.put, List.setIfInBounds_toArray, List.set_cons_zero, List.set_cons_succ])
            refine quiet_at (v := ?_) (by rfl) ?_ ?_
            rotate_left
            · intro w' hSw; replace c1 := bel_cell hSw c1; replace x0 := bel_cell hSw x0; replace x1 := bel_cell hSw x1; replace x2 := bel_cell hSw x2; replace y0 := bel_cell hSw y0; replace y1 := bel_cell hSw y1; replace y2 := bel_cell hSw y2; replace zq := Nat.lt_of_lt_of_le zq hSw.size; replace zg := Nat.lt_of_lt_of_le zg hSw.size; go_simp; try with_reducible rfl
            (try simp only [Act.put, List.setIfInBounds_toArray, List.set_cons_zero, List.set_cons_succ])
            refine quiet_at (v := ?_) (by rfl) ?_ ?_
            rotate_left
            · intro w' hSw; replace c1 := bel_cell hSw c1; replace x0 := bel_cell hSw x0; replace x1 := bel_cell hSw x1; replace x2 := bel_cell hSw x2; replace y0 := bel_cell hSw y0; replace y1 := bel_cell hSw y1; replace y2 := bel_cell hSw y2; replace zq := Nat.lt_of_lt_of_le zq hSw.size; replace zg := Nat.lt_of_lt_of_le zg hSw.size; go_simp; try with_reducible rfl
            (try simp only [Act.put, List.setIfInBounds_toArray, List.set_cons_zero, List.set_cons_succ])
            refine quiet_at (v := ?_) (by rfl) ?_ ?_
            rotate_left
            · intro w' hSw; replace c1 := bel_cell hSw c1; replace x0 := bel_cell hSw x0; replace x1 := bel_cell hSw x1; replace x2 := bel_cell hSw x2; replace y0 := bel_cell hSw y0; replace y1 := bel_cell hSw y1; replace y2 := bel_cell hSw y2; replace zq := Nat.lt_of_lt_of_le zq hSw.size; replace zg := Nat.lt_of_lt_of_le zg hSw.size; go_simp; try with_reducible rfl
            (try simp only [Act.put, List.setIfInBounds_toArray, List.set_cons_zero, List.set_cons_succ])
            refine quiet_at (v := ?_) (by rfl) ?_ ?_
            rotate_left
            · intro w' hSw; replace c1 := bel_cell hSw c1; replace x0 := bel_cell hSw x0; replace x1 := bel_cell hSw x1; replace x2 := bel_cell hSw x2; replace y0 := bel_cell hSw y0; replace y1 := bel_cell hSw y1; replace y2 := bel_cell hSw y2; replace zq := Nat.lt_of_lt_of_le zq hSw.size; replace zg := Nat.lt_of_lt_of_le zg hSw.size; go_simp; try with_reducible rfl
            (try simp only [Act.put, List.setIfInBounds_toArray, List.set_cons_zero, List.set_cons_succ])
            refine quiet_at (v := ?_) (by rfl) ?_ ?_
            rotate_left
            · intro w' hSw; replace c1 := bel_cell hSw c1; replace x0 := bel_cell hSw x0; replace x1 := bel_cell hSw x1; replace x2 := bel_cell hSw x2; replace y0 := bel_cell hSw y0; replace y1 := bel_cell hSw y1; replace y2 := bel_cell hSw y2; replace zq := Nat.lt_of_lt_of_le zq hSw.size; replace zg := Nat.lt_of_lt_of_le zg hSw.size; go_simp; try with_reducible rfl
            (try simp only [Act.put, List.setIfInBounds_toArray, List.set_cons_zero, List.set_cons_succ])
            refine quiet_at (v := ?_) (by rfl) ?_ ?_
            rotate_left
            · intro w' hSw; replace c1 := bel_cell hSw c1; replace x0 := bel_cell hSw x0; replace x1 := bel_cell hSw x1; replace x2 := bel_cell hSw x2; replace y0 := bel_cell hSw y0; replace y1 := bel_cell hSw y1; replace y2 := bel_cell hSw y2; replace zq := Nat.lt_of_lt_of_le zq hSw.size; replace zg := Nat.lt_of_lt_of_le zg hSw.size; go_simp; try with_reducible rfl
            (try simp only [Act.put, List.setIfInBounds_toArray, List.set_cons_zero, List.set_cons_succ])
            refine quiet_at (v := ?_) (by rfl) ?_ ?_
            rotate_left
            · intro w' hSw; replace c1 := bel_cell hSw c1; replace x0 := bel_cell hSw x0; replace x1 := bel_cell hSw x1; replace x2 := bel_cell hSw x2; replace y0 := bel_cell hSw y0; replace y1 := bel_cell hSw y1; replace y2 := bel_cell hSw y2; replace zq := Nat.lt_of_lt_of_le zq hSw.size; replace zg := Nat.lt_of_lt_of_le zg hSw.size; go_simp; try with_reducible rfl
            (try simp only [Act.put, List.setIfInBounds_toArray, List.set_cons_zero, List.set_cons_succ])
            refine quiet_at (v := ?_) (by rfl) ?_ ?_
            rotate_left
            · intro w' hSw; replace c1 := bel_cell hSw c1; replace x0 := bel_cell hSw x0; replace x1 := bel_cell hSw x1; replace x2 := bel_cell hSw x2; replace y0 := bel_cell hSw y0; replace y1 := bel_cell hSw y1; replace y2 := bel_cell hSw y2; replace zq := Nat.lt_of_lt_of_le zq hSw.size; replace zg := Nat.lt_of_lt_of_le zg hSw.size; go_simp; try with_reducible rfl
            (try simp only [Act.put, List.setIfInBounds_toArray, List.set_cons_zero, List.set_cons_succ])
            refine quiet_at (v := ?_) (by rfl) ?_ ?_
            rotate_left
            · intro w' hSw; replace c1 := bel_cell hSw c1; replace x0 := bel_cell hSw x0; replace x1 := bel_cell hSw x1; replace x2 := bel_cell hSw x2; replace y0 := bel_cell hSw y0; replace y1 := bel_cell hSw y1; replace y2 := bel_cell hSw y2; replace zq := Nat.lt_of_lt_of_le zq hSw.size; replace zg := Nat.lt_of_lt_of_le zg hSw.size; go_simp; try with_reducible rfl
            (try simp only [Act.put, List.setIfInBounds_toArray, List.set_cons_zero, List.set_cons_succ])
            refine quiet_at (v := ?_) (by rfl) ?_ ?_
            rotate_left
            · intro w' hSw; replace c1 := bel_cell hSw c1; replace x0 := bel_cell hSw x0; replace x1 := bel_cell hSw x1; replace x2 := bel_cell hSw x2; replace y0 := bel_cell hSw y0; replace y1 := bel_cell hSw y1; replace y2 := bel_cell hSw y2; replace zq := Nat.lt_of_lt_of_le zq hSw.size; replace zg := Nat.lt_of_lt_of_le zg hSw.size; go_simp; try with_reducible rfl
            (try simp only [Act.put, List.setIfInBounds_toArray, List.set_cons_zero, List.set_cons_succ])
            refine quiet_at (v := ?_) (by rfl) ?_ ?_
            rotate_left
            · intro w' hSw; replace c1 := bel_cell hSw c1; replace x0 := bel_cell hSw x0; replace x1 := bel_cell hSw x1; replace x2 := bel_cell hSw x2; replace y0 := bel_cell hSw y0; replace y1 := bel_cell hSw y1; replace y2 := bel_cell hSw y2; replace zq := Nat.lt_of_lt_of_le zq hSw.size; replace zg := Nat.lt_of_lt_of_le zg hSw.size; go_simp; try with_reducible rfl
            (try simp only [Act.put, List.setIfInBounds_toArray, List.set_cons_zero, List.set_cons_succ])
            refine quiet_at (v := ?_) (by rfl) ?_ ?_
            rotate_left
            · intro w' hSw; replace c1 := bel_cell hSw c1; replace x0 := bel_cell hSw x0; replace x1 := bel_cell hSw x1; replace x2 := bel_cell hSw x2; replace y0 := bel_cell hSw y0; replace y1 := bel_cell hSw y1; replace y2 := bel_cell hSw y2; replace zq := Nat.lt_of_lt_of_le zq hSw.size; replace zg := Nat.lt_of_lt_of_le zg hSw.size; go_simp; try with_reducible rfl
            (try simp only [Act.put, List.setIfInBounds_toArray, List.set_cons_zero, List.set_cons_succ])
            refine quiet_at (v := ?_) (by rfl) ?_ ?_
            rotate_left
            · intro w' hSw; replace c1 := bel_cell hSw c1; replace x0 := bel_cell hSw x0; replace x1 := bel_cell hSw x1; replace x2 := bel_cell hSw x2; replace y0 := bel_cell hSw y0; replace y1 := bel_cell hSw y1; replace y2 := bel_cell hSw y2; replace zq := Nat.lt_of_lt_of_le zq hSw.size; replace zg := Nat.lt_of_lt_of_le zg hSw.size; go_simp; try with_reducible rfl
            (try simp only [Act.put, List.setIfInBounds_toArray, List.set_cons_zero, List.set_cons_succ])
            refine quiet_at (v := ?_) (by rfl) ?_ ?_
            rotate_left
            · intro w' hSw; replace c1 := bel_cell hSw c1; replace x0 := bel_cell hSw x0; replace x1 := bel_cell hSw x1; replace x2 := bel_cell hSw x2; replace y0 := bel_cell hSw y0; replace y1 := bel_cell hSw y1; replace y2 := bel_cell hSw y2; replace zq := Nat.lt_of_lt_of_le zq hSw.size; replace zg := Nat.lt_of_lt_of_le zg hSw.size; go_simp; try with_reducible rfl
            (try simp only [Act.put, List.setIfInBounds_toArray, List.set_cons_zero, List.set_cons_succ])
            refine quiet_at (v := ?_) (by rfl) ?_ ?_
            rotate_left
            · intro w' hSw; replace c1 := bel_cell hSw c1; replace x0 := bel_cell hSw x0; replace x1 := bel_cell hSw x1; replace x2 := bel_cell hSw x2; replace y0 := bel_cell hSw y0; replace y1 := bel_cell hSw y1; replace y2 := bel_cell hSw y2; replace zq := Nat.lt_of_lt_of_le zq hSw.size; replace zg := Nat.lt_of_lt_of_le zg hSw.size; go_simp; try with_reducible rfl
            (try simp only [Act.put, List.setIfInBounds_toArray, List.set_cons_zero, List.set_cons_succ])
            refine quiet_at (v := .int .i64 (dueF (f1 c) (f1 l))) (by rfl) (fun w' hSw => ?_) ?_
            · replace c1 := bel_cell hSw c1; replace x0 := bel_cell hSw x0; replace x1 := bel_cell hSw x1; replace x2 := bel_cell hSw x2; replace y0 := bel_cell hSw y0; replace y1 := bel_cell hSw y1; replace y2 := bel_cell hSw y2; replace zq := Nat.lt_of_lt_of_le zq hSw.size; replace zg := Nat.lt_of_lt_of_le zg hSw.size; go_simp; exact ((DW.out _).mono fun e w2 h => ⟨h.1, below_trans hSw h.2⟩)
            (try simp only [Act.put, List.setIfInBounds_toArray, List.set_cons_zero, List.set_cons_succ])
            refine quiet_at (v := ?_) (by rfl) ?_ ?_
            rotate_left
            · intro w' hSw; replace c1 := bel_cell hSw c1; replace x0 := bel_cell hSw x0; replace x1 := bel_cell hSw x1; replace x2 := bel_cell hSw x2; replace y0 := bel_cell hSw y0; replace y1 := bel_cell hSw y1; replace y2 := bel_cell hSw y2; replace zq := Nat.lt_of_lt_of_le zq hSw.size; replace zg := Nat.lt_of_lt_of_le zg hSw.size; go_simp; try with_reducible rfl
            (try simp only [Act.put, List.setIfInBounds_toArray, List.set_cons_zero, List.set_cons_succ])
            refine quiet_at (v := ?_) (by rfl) ?_ ?_
            rotate_left
            · intro w' hSw; replace c1 := bel_cell hSw c1; replace x0 := bel_cell hSw x0; replace x1 := bel_cell hSw x1; replace x2 := bel_cell hSw x2; replace y0 := bel_cell hSw y0; replace y1 := bel_cell hSw y1; replace y2 := bel_cell hSw y2; replace zq := Nat.lt_of_lt_of_le zq hSw.size; replace zg := Nat.lt_of_lt_of_le zg hSw.size; go_simp; try with_reducible rfl
            (try simp only [Act.put, List.setIfInBounds_toArray, List.set_cons_zero, List.set_cons_succ])
            refine wpQuiet_nil ?_
            intro wq hSq
            go_wp2_with (fail)
            go_meet
            exact ⟨rfl, congrArg Value.bool DV.out, hSq⟩
          · have cn : decide ((c : Int) < n) = false := decide_eq_false (by omega)
            have DV := Lib.hid (show false = decide (c < n ∧ ltE (f1 c) (f1 l)) from (decide_eq_false (fun h => hcn h.1)).symm)
            clear h
            refine wp_quiet_class (fun w' => Below wr.heap.size wr w') (by kernel_rfl) (by kernel_rfl) (below_drewN (Below.refl _ _) 1) ?_
            refine quiet_at (v := ?_) (by rfl) ?_ ?_
            rotate_left
            · intro w' hSw; replace c1 := bel_cell hSw c1; replace zq := Nat.lt_of_lt_of_le zq hSw.size; replace zg := Nat.lt_of_lt_of_le zg hSw.size; go_simp; try with_reducible rfl
            (try simp only [Act.put, List.setIfInBounds_toArray, List.set_cons_zero, List.set_cons_succ])
            refine quiet_at (v := ?_) (by rfl) ?_ ?_
            rotate_left
            · intro w' hSw; replace c1 := bel_cell hSw c1; replace zq := Nat.lt_of_lt_of_le zq hSw.size; replace zg := Nat.lt_of_lt_of_le zg hSw.size; go_simp; try with_reducible rfl
            (try simp only [Act.put, List.setIfInBounds_toArray, List.set_cons_zero, List.set_cons_succ])
            refine quiet_at (v := ?_) (by rfl) ?_ ?_
            rotate_left
            · intro w' hSw; replace c1 := bel_cell hSw c1; replace zq := Nat.lt_of_lt_of_le zq hSw.size; replace zg := Nat.lt_of_lt_of_le zg hSw.size; go_simp; try with_reducible rfl
            (try simp only [Act.put, List.setIfInBounds_toArray, List.set_cons_zero, List.set_cons_succ])
            refine quiet_at (v := ?_) (by rfl) ?_ ?_
            rotate_left
            · intro w' hSw; replace c1 := bel_cell hSw c1; replace zq := Nat.lt_of_lt_of_le zq hSw.size; replace zg := Nat.lt_of_lt_of_le zg hSw.size; go_simp; try with_reducible rfl
            (try simp only [Act.put, List.setIfInBounds_toArray, List.set_cons_zero, List.set_cons_succ])
            refine quiet_at (v := ?_) (by rfl) ?_ ?_
            rotate_left
            · intro w' hSw; replace c1 := bel_cell hSw c1; replace zq := Nat.lt_of_lt_of_le zq hSw.size; replace zg := Nat.lt_of_lt_of_le zg hSw.size; go_simp; try with_reducible rfl
            (try simp only [Act.put, List.setIfInBounds_toArray, List.set_cons_zero, List.set_cons_succ])
            refine quiet_at (v := ?_) (by rfl) ?_ ?_
            rotate_left
            · intro w' hSw; replace c1 := bel_cell hSw c1; replace zq := Nat.lt_of_lt_of_le zq hSw.size; replace zg := Nat.lt_of_lt_of_le zg hSw.size; go_simp; try with_reducible rfl
            (try simp only [Act.put, List.setIfInBounds_toArray, List.set_cons_zero, List.set_cons_succ])
            refine quiet_at (v := ?_) (by rfl) ?_ ?_
            rotate_left
            · intro w' hSw; replace c1 := bel_cell hSw c1; replace zq := Nat.lt_of_lt_of_le zq hSw.size; replace zg := Nat.lt_of_lt_of_le zg hSw.size; go_simp; try with_reducible rfl
            (try simp only [Act.put, List.setIfInBounds_toArray, List.set_cons_zero, List.set_cons_succ])
            refine quiet_at (v := ?_) (by rfl) ?_ ?_
            rotate_left
            · intro w' hSw; replace c1 := bel_cell hSw c1; replace zq := Nat.lt_of_lt_of_le zq hSw.size; replace zg := Nat.lt_of_lt_of_le zg hSw.size; go_simp; try with_reducible rfl
            (try simp only [Act.put, List.setIfInBounds_toArray, List.set_cons_zero, List.set_cons_succ])
            refine quiet_out (by rfl) ?_
            (try simp only [Act.put, List.setIfInBounds_toArray, List.set_cons_zero, List.set_cons_succ])
            refine quiet_out (by rfl) ?_
            (try simp only [Act.put, List.setIfInBounds_toArray, List.set_cons_zero, List.set_cons_succ])
            refine quiet_out (by rfl) ?_
            (try simp only [Act.put, List.setIfInBounds_toArray, List.set_cons_zero, List.set_cons_succ])
            refine quiet_out (by rfl) ?_
            (try simp only [Act.put, List.setIfInBounds_toArray, List.set_cons_zero, List.set_cons_succ])
            refine quiet_out (by rfl) ?_
            (try simp only [Act.put, List.setIfInBounds_toArray, List.set_cons_zero, List.set_cons_succ])
            refine quiet_out (by rfl) ?_
            (try simp only [Act.put, List.setIfInBounds_toArray, List.set_cons_zero, List.set_cons_succ])
            refine quiet_out (by rfl) ?_
            (try simp only [Act.put, List.setIfInBounds_toArray, List.set_cons_zero, List.set_cons_succ])
            refine quiet_out (by rfl) ?_
            (try simp only [Act.put, List.setIfInBounds_toArray, List.set_cons_zero, List.set_cons_succ])
            refine quiet_out (by rfl) ?_
            (try simp only [Act.put, List.setIfInBounds_toArray, List.set_cons_zero, List.set_cons_succ])
            refine quiet_out (by rfl) ?_
            (try simp only [Act.put, List.setIfInBounds_toArray, List.set_cons_zero, List.set_cons_succ])
            refine quiet_out (by rfl) ?_
            (try simp only [Act.put, List.setIfInBounds_toArray, List.set_cons_zero, List.set_cons_succ])
            refine quiet_out (by rfl) ?_
            (try simp only [Act.put, List.setIfInBounds_toArray, List.set_cons_zero, List.set_cons_succ])
            refine quiet_out (by rfl) ?_
            (try simp only [Act.put, List.setIfInBounds_toArray, List.set_cons_zero, List.set_cons_succ])
            refine quiet_out (by rfl) ?_
            (try simp only [Act.put, List.setIfInBounds_toArray, List.set_cons_zero, List.set_cons_succ])
            refine quiet_out (by rfl) ?_
            (try simp only [Act.put, List.setIfInBounds_toArray, List.set_cons_zero, List.set_cons_succ])
            refine quiet_out (by rfl) ?_
            (try simp only [Act.put, List.setIfInBounds_toArray, List.set_cons_zero, List.set_cons_succ])
            refine quiet_at (v := ?_) (by rfl) ?_ ?_
            rotate_left
            · intro w' hSw; replace c1 := bel_cell hSw c1; replace zq := Nat.lt_of_lt_of_le zq hSw.size; replace zg := Nat.lt_of_lt_of_le zg hSw.size; go_simp; try with_reducible rfl
            (try simp only [Act.put, List.setIfInBounds_toArray, List.set_cons_zero, List.set_cons_succ])
            refine wpQuiet_nil ?_
            intro wq hSq
            go_wp2_with (fail)
            go_meet
            exact ⟨rfl, congrArg Value.bool DV.out, hSq⟩
        case rest =>
          obtain ⟨rfl, rfl, hB⟩ := hcut
          have h2 := H.out.below hB
          have F2 := hF.trans (QFr.of_below hB)
          clear c1 zq zg hB h
          by_cases hlt : c < n ∧ ltE (f1 c) (f1 l)
          · rw [decide_eq_true hlt]
            have HL := Lib.hid (LT.out hlt.1 hlt.2)
            clear hlt
            go_wp2_with (fail)
            go_roundw
            case rel => exact ⟨t + 1, c, by omega, by go_num, rfl, HL.out, h2, F2⟩
            case measure => simp [intOf]; omega
          · rw [decide_eq_false hlt]
            have HL := Lib.hid (LK.out (fun hc e => hlt ⟨hc, e⟩))
            clear hlt
            go_wp2_with (fail)
            go_roundw
            case rel => exact ⟨t + 1, l, by omega, by go_num, rfl, HL.out, h2, F2⟩
            case measure => simp [intOf]; omega
      · obtain rfl : t = 2 := by omega
        have hln := hL.1
        have l0 : (0 : Int) ≤ l := by omega
        by_cases hlj : l = j
        · subst hlj
          have HO := Lib.hid (lst_end HM.out HX.out hL)
          have e0 : ((l : Int) == l) = true := by simp
          clear hL c1 zq zg
          go_wp2
          exact bodyPost_ret (results_none rfl _ _ _) rfl ⟨rfl, ⟨f1, m1, h, HM.out, HO.out, HS.out⟩, hF⟩
        · have HD := Lib.hid (lst_step HM.out HX.out hj hL hlj)
          have SW := Lib.hid (fun w h => swap_walk q r g cap n j l room f1 m1 w h hj hln)
          have hjl : j < l := by have := hL.2.1; omega
          have e0 : ((l : Int) == j) = false := by simp; omega
          clear hL c1 zq zg hlj
          go_wp2_with (fail)
          refine (SW.out _ h).mono ?_
          rintro e w3 ⟨rfl, h3, F3⟩
          have hm3 := HM.out.swap hj hln
          have hs3 := HS.out.trans (same_swp hj hln)
          go_wp2_with (fail)
          go_roundw
          case rel => exact ⟨swp f1 j l, _, l, by first | rfl | go_num, h3, hm3, HD.out, hln, hs3, hF.trans F3⟩
          case measure => simp [intOf]; omega
end Go.Proofs.YtfbbkeekpkbjhaaDoor
