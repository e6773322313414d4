/- The law QueuePops, walked. -/
import Derived.Test.YtfbbkeekpkbjhaaP4
import Derived.Laws.BitsLemmas
import Derived.Deep.RegionHeld3
import Derived.Deep.CutRange
import Derived.Deep.CutBlock
namespace Go.Proofs.Ytfbbkeekpkbjhaa
open Go.RowKit
def Trip (w : World) (A : Option Addr) (n : Nat) (xs ys zs : Nat → Int) : Prop :=
  n ≤ 9223372036854775807 ∧ (0 < n → ∃ ad, A = some ad ∧ ad.block < w.heap.size ∧ ∀ j, j < n → w.cell? (ad.add (j * 3)) = some (.int .i64 (xs j)) ∧ w.cell? ⟨(ad.add (j * 3)).block, (ad.add (j * 3)).off + 1, none⟩ = some (.int .i64 (ys j)) ∧ w.cell? ⟨(ad.add (j * 3)).block, (ad.add (j * 3)).off + 2, none⟩ = some (.int .i64 (zs j)))
theorem Trip.below {w w1 : World} {A : Option Addr} {n : Nat} {xs ys zs : Nat → Int} (h : Trip w A n xs ys zs) {B : Nat} (hB : ∀ ad, A = some ad → ad.block < B) (hb : Below B w w1) : Trip w1 A n xs ys zs := by
  obtain ⟨h1, h2⟩ := h
  refine ⟨h1, fun hn => ?_⟩
  obtain ⟨ad, e, hl, hc⟩ := h2 hn
  have hlt := hB ad e
  have e1 : ∀ i o p, (⟨(ad.add i).block, o, p⟩ : Addr).block < B := fun i o p => by show (ad.add i).block < B; rw [add_block]; exact hlt
  exact ⟨ad, e, Nat.lt_of_lt_of_le hl hb.size, fun j hj => ⟨(hb.cell (p := ad.add (j * 3)) (by rw [add_block]; exact hlt)).trans (hc j hj).1, (hb.cell (e1 _ _ _)).trans (hc j hj).2.1, (hb.cell (e1 _ _ _)).trans (hc j hj).2.2⟩⟩
set_option linter.unusedSimpArgs false in
set_option linter.unusedVariables false in
set_option maxRecDepth 100000 in
set_option maxHeartbeats 2000000 in
theorem pops_walk (A : Option Addr) (N cap : Nat) (xs ys zs : Nat → Int) (w : World) (hi : Trip w A N xs ys zs) :
    Calls Try.prog 3 #[.slice A N cap] w fun x w' => x = .returned (.bool true) ∧ Below w.heap.size w w' := by
  have hN := hi.1
  have hAB : ∀ ad, A = some ad → 0 < N → ad.block < w.heap.size := fun ad e h0 => by
    obtain ⟨ad', e', hl, _⟩ := hi.2 h0
    rw [e] at e'; cases e'; exact hl
  have HI := Lib.hid hi; have HAB := Lib.hid hAB
  clear hi hAB
  go_enter Try.func3, Try.ntmps3
  go_wp2_with (fail)
  refine (new_qs 200 w (by omega) (by omega)).mono ?_
  rintro x w1 ⟨rfl, h1, B1⟩
  have H1 := Lib.hid h1
  clear h1
  go_upto_region 6 with (fail)
  generalize hQ : w.heap.size + 1 = Q at *
  generalize hB : w.heap.size = B at *
  have HQB := Lib.hid hQ
  clear hQ
  go_loopw [6, 5] (fun iv mv wr => ∃ (k n : Nat) (hv : Value) (f : Nat → Ev) (m : Int → Int → Option Nat), k ≤ N ∧ k ≤ 200 ∧ n ≤ k ∧ iv = .int .i64 k ∧ mv = .int .i64 n ∧ QS B wr Q B hv 200 n f m ∧ (∀ x, Mem n f x → 0 ≤ x.t) ∧ Below B w wr) (fun iv _ _ => N - (intOf iv).toNat)
  case atStart => exact ⟨0, 0, _, _, _, by omega, by omega, by omega, rfl, rfl, H1.out, (fun x ⟨i, hi, _⟩ => by omega), B1⟩
  case round =>
    clear H1 B1
    obtain ⟨k, n, hv, f, m, hk, hk2, hnk, rfl, rfl, hq, hpos, bel⟩ := hrel
    by_cases hlt : k < N ∧ k < 200
    · obtain ⟨hlt, h200⟩ := hlt
      obtain ⟨ad, rfl, hadl, hc⟩ := HI.out.2 (by omega)
      have hadB := HAB.out ad rfl (by omega)
      obtain ⟨a0, a1, a2⟩ := hc k hlt
      have k0 : (0 : Int) ≤ k := by omega
      have c0 : wr.cell? (ad.add (k * 3)) = some (.int .i64 (xs k)) := (bel.cell (by rw [add_block]; exact hadB)).trans a0
      have c1 : wr.cell? ⟨(ad.add (k * 3)).block, (ad.add (k * 3)).off + 1, none⟩ = some (.int .i64 (ys k)) := (bel.cell (by show (ad.add (k * 3)).block < B; rw [add_block]; exact hadB)).trans a1
      have c2 : wr.cell? ⟨(ad.add (k * 3)).block, (ad.add (k * 3)).off + 2, none⟩ = some (.int .i64 (zs k)) := (bel.cell (by show (ad.add (k * 3)).block < B; rw [add_block]; exact hadB)).trans a2
      clear a0 a1 a2 hc
      generalize xs k = x at *
      generalize ys k = y at *
      generalize zs k = z at *
      obtain ⟨p0, p1⟩ := u64m_bd x 1000 (by decide)
      obtain ⟨q0, q1⟩ := u64m_bd y 5 (by decide)
      obtain ⟨r0, r1⟩ := u64m_bd z 20 (by decide)
      have w0 : IntKind.i64.wrap ((IntKind.u64.wrap x).tmod 1000) = (IntKind.u64.wrap x).tmod 1000 := by rw [IntKind.wrap_i64]; omega
      have w1' : IntKind.i64.wrap ((IntKind.u64.wrap y).tmod 5) = (IntKind.u64.wrap y).tmod 5 := by rw [IntKind.wrap_i64]; omega
      have w2' : IntKind.i64.wrap ((IntKind.u64.wrap z).tmod 20) = (IntKind.u64.wrap z).tmod 20 := by rw [IntKind.wrap_i64]; omega
      have HQ := Lib.hid hq
      have HPOS := Lib.hid hpos
      have zad : ad.block < wr.heap.size := Nat.lt_of_lt_of_le hadl bel.size
      clear hq hpos
      have NB := Lib.hid (show ((wr.alloc (Obj.cells #[Value.int IntKind.i64 0, Value.int IntKind.i64 0, Value.int IntKind.i64 0] 31)).drew).heap[wr.heap.size]? = some (.cells #[Value.int IntKind.i64 0, Value.int IntKind.i64 0, Value.int IntKind.i64 0] 31 (0, 0)) from heap_alloc_new wr _)
      have HE0 := Lib.hid (show (0 : Int) ≤ (IntKind.u64.wrap x).tmod 1000 ∧ (IntKind.u64.wrap x).tmod 1000 ≤ 4611686018427387904 ∧ (0 : Int) ≤ (IntKind.u64.wrap y).tmod 5 ∧ (0 : Int) ≤ (IntKind.u64.wrap z).tmod 20 from ⟨p0, by omega, q0, r0⟩)
      clear p0 p1 q0 q1 r0 r1
      go_upto_region 8 with (fail)
      go_cut [7] from 32 to 106 (fun v7 wx => v7 = .pointer (some ⟨wr.heap.size, 0, none⟩) ∧ Blk wx wr.heap.size 31 (evV ⟨(IntKind.u64.wrap x).tmod 1000, (IntKind.u64.wrap y).tmod 5, (IntKind.u64.wrap z).tmod 20⟩) ∧ Below wr.heap.size wr wx)
      case first =>
        refine wp_region_noPanic ?_
        refine wp_region_held_drew (S := (fun w' => Below wr.heap.size wr w')) (by kernel_rfl) ?_ (fun hHeld => ?_)
        · exact below_drewN (Below.refl _ _) 1
        refine reg_take (i := 0) (oi := _) (v := ?_) rfl (by kernel_rfl) (by kernel_rfl) (by kernel_rfl) (fun _ _ _ h => h) (by rfl) ?_ (by assumption) ?_
        rotate_left
        · intro w hSw; (try dsimp only at hSw); replace c0 := bel_cell hSw c0; replace c1 := bel_cell hSw c1; replace c2 := bel_cell hSw c2; replace zad := Nat.lt_of_lt_of_le zad hSw.size; go_simp; try with_reducible rfl
        (try simp only [Act.put, List.setIfInBounds_toArray, List.set_cons_zero, List.set_cons_succ])
        refine reg_take (i := 1) (oi := _) (v := ?_) rfl (by kernel_rfl) (by kernel_rfl) (by kernel_rfl) (fun _ _ _ h => h) (by rfl) ?_ (by assumption) ?_
        rotate_left
        · intro w hSw; (try dsimp only at hSw); replace c0 := bel_cell hSw c0; replace c1 := bel_cell hSw c1; replace c2 := bel_cell hSw c2; replace zad := Nat.lt_of_lt_of_le zad hSw.size; go_simp; try with_reducible rfl
        (try simp only [Act.put, List.setIfInBounds_toArray, List.set_cons_zero, List.set_cons_succ])
        refine reg_take (i := 2) (oi := _) (v := ?_) rfl (by kernel_rfl) (by kernel_rfl) (by kernel_rfl) (fun _ _ _ h => h) (by rfl) ?_ (by assumption) ?_
        rotate_left
        · intro w hSw; (try dsimp only at hSw); replace c0 := bel_cell hSw c0; replace c1 := bel_cell hSw c1; replace c2 := bel_cell hSw c2; replace zad := Nat.lt_of_lt_of_le zad hSw.size; go_simp; try with_reducible rfl
        (try simp only [Act.put, List.setIfInBounds_toArray, List.set_cons_zero, List.set_cons_succ])
        refine reg_take (i := 3) (oi := _) (v := ?_) rfl (by kernel_rfl) (by kernel_rfl) (by kernel_rfl) (fun _ _ _ h => h) (by rfl) ?_ (by assumption) ?_
        rotate_left
        · intro w hSw; (try dsimp only at hSw); replace c0 := bel_cell hSw c0; replace c1 := bel_cell hSw c1; replace c2 := bel_cell hSw c2; replace zad := Nat.lt_of_lt_of_le zad hSw.size; go_simp; try with_reducible rfl
        (try simp only [Act.put, List.setIfInBounds_toArray, List.set_cons_zero, List.set_cons_succ])
        refine reg_take (i := 4) (oi := _) (v := ?_) rfl (by kernel_rfl) (by kernel_rfl) (by kernel_rfl) (fun _ _ _ h => h) (by rfl) ?_ (by assumption) ?_
        rotate_left
        · intro w hSw; (try dsimp only at hSw); replace c0 := bel_cell hSw c0; replace c1 := bel_cell hSw c1; replace c2 := bel_cell hSw c2; replace zad := Nat.lt_of_lt_of_le zad hSw.size; go_simp; try with_reducible rfl
        (try simp only [Act.put, List.setIfInBounds_toArray, List.set_cons_zero, List.set_cons_succ])
        refine reg_take (i := 5) (oi := _) (v := ?_) rfl (by kernel_rfl) (by kernel_rfl) (by kernel_rfl) (fun _ _ _ h => h) (by rfl) ?_ (by assumption) ?_
        rotate_left
        · intro w hSw; (try dsimp only at hSw); replace c0 := bel_cell hSw c0; replace c1 := bel_cell hSw c1; replace c2 := bel_cell hSw c2; replace zad := Nat.lt_of_lt_of_le zad hSw.size; go_simp; try with_reducible rfl
        (try simp only [Act.put, List.setIfInBounds_toArray, List.set_cons_zero, List.set_cons_succ])
        refine reg_take (i := 6) (oi := _) (v := ?_) rfl (by kernel_rfl) (by kernel_rfl) (by kernel_rfl) (fun _ _ _ h => h) (by rfl) ?_ (by assumption) ?_
        rotate_left
        · intro w hSw; (try dsimp only at hSw); replace c0 := bel_cell hSw c0; replace c1 := bel_cell hSw c1; replace c2 := bel_cell hSw c2; replace zad := Nat.lt_of_lt_of_le zad hSw.size; go_simp; try with_reducible rfl
        (try simp only [Act.put, List.setIfInBounds_toArray, List.set_cons_zero, List.set_cons_succ])
        refine reg_take (i := 7) (oi := _) (v := ?_) rfl (by kernel_rfl) (by kernel_rfl) (by kernel_rfl) (fun _ _ _ h => h) (by rfl) ?_ (by assumption) ?_
        rotate_left
        · intro w hSw; (try dsimp only at hSw); replace c0 := bel_cell hSw c0; replace c1 := bel_cell hSw c1; replace c2 := bel_cell hSw c2; replace zad := Nat.lt_of_lt_of_le zad hSw.size; go_simp; try with_reducible rfl
        (try simp only [Act.put, List.setIfInBounds_toArray, List.set_cons_zero, List.set_cons_succ])
        refine reg_take (i := 8) (oi := _) (v := ?_) rfl (by kernel_rfl) (by kernel_rfl) (by kernel_rfl) (fun _ _ _ h => h) (by rfl) ?_ (by assumption) ?_
        rotate_left
        · intro w hSw; (try dsimp only at hSw); replace c0 := bel_cell hSw c0; replace c1 := bel_cell hSw c1; replace c2 := bel_cell hSw c2; replace zad := Nat.lt_of_lt_of_le zad hSw.size; go_simp; try with_reducible rfl
        (try simp only [Act.put, List.setIfInBounds_toArray, List.set_cons_zero, List.set_cons_succ])
        refine reg_take (i := 9) (oi := _) (v := ?_) rfl (by kernel_rfl) (by kernel_rfl) (by kernel_rfl) (fun _ _ _ h => h) (by rfl) ?_ (by assumption) ?_
        rotate_left
        · intro w hSw; (try dsimp only at hSw); replace c0 := bel_cell hSw c0; replace c1 := bel_cell hSw c1; replace c2 := bel_cell hSw c2; replace zad := Nat.lt_of_lt_of_le zad hSw.size; go_simp; try with_reducible rfl
        (try simp only [Act.put, List.setIfInBounds_toArray, List.set_cons_zero, List.set_cons_succ])
        refine reg_take (i := 10) (oi := _) (v := ?_) rfl (by kernel_rfl) (by kernel_rfl) (by kernel_rfl) (fun _ _ _ h => h) (by rfl) ?_ (by assumption) ?_
        rotate_left
        · intro w hSw; (try dsimp only at hSw); replace c0 := bel_cell hSw c0; replace c1 := bel_cell hSw c1; replace c2 := bel_cell hSw c2; replace zad := Nat.lt_of_lt_of_le zad hSw.size; go_simp; try with_reducible rfl
        (try simp only [Act.put, List.setIfInBounds_toArray, List.set_cons_zero, List.set_cons_succ])
        refine reg_take (i := 11) (oi := _) (v := ?_) rfl (by kernel_rfl) (by kernel_rfl) (by kernel_rfl) (fun _ _ _ h => h) (by rfl) ?_ (by assumption) ?_
        rotate_left
        · intro w hSw; (try dsimp only at hSw); replace c0 := bel_cell hSw c0; replace c1 := bel_cell hSw c1; replace c2 := bel_cell hSw c2; replace zad := Nat.lt_of_lt_of_le zad hSw.size; go_simp; try with_reducible rfl
        (try simp only [Act.put, List.setIfInBounds_toArray, List.set_cons_zero, List.set_cons_succ])
        refine reg_take (i := 12) (oi := _) (v := ?_) rfl (by kernel_rfl) (by kernel_rfl) (by kernel_rfl) (fun _ _ _ h => h) (by rfl) ?_ (by assumption) ?_
        rotate_left
        · intro w hSw; (try dsimp only at hSw); replace c0 := bel_cell hSw c0; replace c1 := bel_cell hSw c1; replace c2 := bel_cell hSw c2; replace zad := Nat.lt_of_lt_of_le zad hSw.size; go_simp; try with_reducible rfl
        (try simp only [Act.put, List.setIfInBounds_toArray, List.set_cons_zero, List.set_cons_succ])
        refine reg_take (i := 13) (oi := _) (v := ?_) rfl (by kernel_rfl) (by kernel_rfl) (by kernel_rfl) (fun _ _ _ h => h) (by rfl) ?_ (by assumption) ?_
        rotate_left
        · intro w hSw; (try dsimp only at hSw); replace c0 := bel_cell hSw c0; replace c1 := bel_cell hSw c1; replace c2 := bel_cell hSw c2; replace zad := Nat.lt_of_lt_of_le zad hSw.size; go_simp; try with_reducible rfl
        (try simp only [Act.put, List.setIfInBounds_toArray, List.set_cons_zero, List.set_cons_succ])
        refine reg_take (i := 14) (oi := _) (v := ?_) rfl (by kernel_rfl) (by kernel_rfl) (by kernel_rfl) (fun _ _ _ h => h) (by rfl) ?_ (by assumption) ?_
        rotate_left
        · intro w hSw; (try dsimp only at hSw); replace c0 := bel_cell hSw c0; replace c1 := bel_cell hSw c1; replace c2 := bel_cell hSw c2; replace zad := Nat.lt_of_lt_of_le zad hSw.size; go_simp; try with_reducible rfl
        (try simp only [Act.put, List.setIfInBounds_toArray, List.set_cons_zero, List.set_cons_succ])
        refine reg_take (i := 15) (oi := _) (v := ?_) rfl (by kernel_rfl) (by kernel_rfl) (by kernel_rfl) (fun _ _ _ h => h) (by rfl) ?_ (by assumption) ?_
        rotate_left
        · intro w hSw; (try dsimp only at hSw); replace c0 := bel_cell hSw c0; replace c1 := bel_cell hSw c1; replace c2 := bel_cell hSw c2; replace zad := Nat.lt_of_lt_of_le zad hSw.size; go_simp; try with_reducible rfl
        (try simp only [Act.put, List.setIfInBounds_toArray, List.set_cons_zero, List.set_cons_succ])
        refine reg_take (i := 16) (oi := _) (v := ?_) rfl (by kernel_rfl) (by kernel_rfl) (by kernel_rfl) (fun _ _ _ h => h) (by rfl) ?_ (by assumption) ?_
        rotate_left
        · intro w hSw; (try dsimp only at hSw); replace c0 := bel_cell hSw c0; replace c1 := bel_cell hSw c1; replace c2 := bel_cell hSw c2; replace zad := Nat.lt_of_lt_of_le zad hSw.size; go_simp; try with_reducible rfl
        (try simp only [Act.put, List.setIfInBounds_toArray, List.set_cons_zero, List.set_cons_succ])
        refine reg_take (i := 17) (oi := _) (v := ?_) rfl (by kernel_rfl) (by kernel_rfl) (by kernel_rfl) (fun _ _ _ h => h) (by rfl) ?_ (by assumption) ?_
        rotate_left
        · intro w hSw; (try dsimp only at hSw); replace c0 := bel_cell hSw c0; replace c1 := bel_cell hSw c1; replace c2 := bel_cell hSw c2; replace zad := Nat.lt_of_lt_of_le zad hSw.size; go_simp; try with_reducible rfl
        (try simp only [Act.put, List.setIfInBounds_toArray, List.set_cons_zero, List.set_cons_succ])
        refine reg_take (i := 18) (oi := _) (v := ?_) rfl (by kernel_rfl) (by kernel_rfl) (by kernel_rfl) (fun _ _ _ h => h) (by rfl) ?_ (by assumption) ?_
        rotate_left
        · intro w hSw; (try dsimp only at hSw); replace c0 := bel_cell hSw c0; replace c1 := bel_cell hSw c1; replace c2 := bel_cell hSw c2; replace zad := Nat.lt_of_lt_of_le zad hSw.size; go_simp; try with_reducible rfl
        (try simp only [Act.put, List.setIfInBounds_toArray, List.set_cons_zero, List.set_cons_succ])
        refine reg_take (i := 19) (oi := _) (v := ?_) rfl (by kernel_rfl) (by kernel_rfl) (by kernel_rfl) (fun _ _ _ h => h) (by rfl) ?_ (by assumption) ?_
        rotate_left
        · intro w hSw; (try dsimp only at hSw); replace c0 := bel_cell hSw c0; replace c1 := bel_cell hSw c1; replace c2 := bel_cell hSw c2; replace zad := Nat.lt_of_lt_of_le zad hSw.size; go_simp; try with_reducible rfl
        (try simp only [Act.put, List.setIfInBounds_toArray, List.set_cons_zero, List.set_cons_succ])
        refine reg_take (i := 20) (oi := _) (v := ?_) rfl (by kernel_rfl) (by kernel_rfl) (by kernel_rfl) (fun _ _ _ h => h) (by rfl) ?_ (by assumption) ?_
        rotate_left
        · intro w hSw; (try dsimp only at hSw); replace c0 := bel_cell hSw c0; replace c1 := bel_cell hSw c1; replace c2 := bel_cell hSw c2; replace zad := Nat.lt_of_lt_of_le zad hSw.size; go_simp; try with_reducible rfl
        (try simp only [Act.put, List.setIfInBounds_toArray, List.set_cons_zero, List.set_cons_succ])
        refine reg_take (i := 21) (oi := _) (v := ?_) rfl (by kernel_rfl) (by kernel_rfl) (by kernel_rfl) (fun _ _ _ h => h) (by rfl) ?_ (by assumption) ?_
        rotate_left
        · intro w hSw; (try dsimp only at hSw); replace c0 := bel_cell hSw c0; replace c1 := bel_cell hSw c1; replace c2 := bel_cell hSw c2; replace zad := Nat.lt_of_lt_of_le zad hSw.size; go_simp; try with_reducible rfl
        (try simp only [Act.put, List.setIfInBounds_toArray, List.set_cons_zero, List.set_cons_succ])
        refine reg_take (i := 22) (oi := _) (v := ?_) rfl (by kernel_rfl) (by kernel_rfl) (by kernel_rfl) (fun _ _ _ h => h) (by rfl) ?_ (by assumption) ?_
        rotate_left
        · intro w hSw; (try dsimp only at hSw); replace c0 := bel_cell hSw c0; replace c1 := bel_cell hSw c1; replace c2 := bel_cell hSw c2; replace zad := Nat.lt_of_lt_of_le zad hSw.size; go_simp; try with_reducible rfl
        (try simp only [Act.put, List.setIfInBounds_toArray, List.set_cons_zero, List.set_cons_succ])
        refine reg_take (i := 23) (oi := _) (v := ?_) rfl (by kernel_rfl) (by kernel_rfl) (by kernel_rfl) (fun _ _ _ h => h) (by rfl) ?_ (by assumption) ?_
        rotate_left
        · intro w hSw; (try dsimp only at hSw); replace c0 := bel_cell hSw c0; replace c1 := bel_cell hSw c1; replace c2 := bel_cell hSw c2; replace zad := Nat.lt_of_lt_of_le zad hSw.size; go_simp; try with_reducible rfl
        (try simp only [Act.put, List.setIfInBounds_toArray, List.set_cons_zero, List.set_cons_succ])
        refine reg_take (i := 24) (oi := _) (v := ?_) rfl (by kernel_rfl) (by kernel_rfl) (by kernel_rfl) (fun _ _ _ h => h) (by rfl) ?_ (by assumption) ?_
        rotate_left
        · intro w hSw; (try dsimp only at hSw); replace c0 := bel_cell hSw c0; replace c1 := bel_cell hSw c1; replace c2 := bel_cell hSw c2; replace zad := Nat.lt_of_lt_of_le zad hSw.size; go_simp; try with_reducible rfl
        (try simp only [Act.put, List.setIfInBounds_toArray, List.set_cons_zero, List.set_cons_succ])
        refine wpAnyH_ready (rs := [25]) (by kernel_rfl) (by simp) ?_
        refine reg_each (o := _) rfl (fun K hK => ?_) ?_
        · skip
          go_simp
          refine hK.out _ _ ?_ (fun hHeld2 => ?_)
          · exact below_al hHeld _
          clear hK K hHeld
          have hHeld := hHeld2
          clear hHeld2
          (try simp only [Act.put, List.setIfInBounds_toArray, List.set_cons_zero, List.set_cons_succ])
          refine wpAnyH_ready (rs := [26]) (by kernel_rfl) (by simp) ?_
          refine reg_each (o := _) rfl (fun K hK => ?_) ?_
          · skip
            rw [if_pos (by rfl)]
            refine wp_store_row 31 _ _ rfl wr.heap.size (evV ⟨(IntKind.u64.wrap x).tmod 1000, (IntKind.u64.wrap y).tmod 5, (IntKind.u64.wrap z).tmod 20⟩) rfl rfl 31 #[Value.int IntKind.i64 0, Value.int IntKind.i64 0, Value.int IntKind.i64 0] NB.out (by kernel_rfl) rfl (ev_one _) ?_
            refine hK.out _ _ ?_ (fun hHeld2 => ?_)
            · exact below_setRow hHeld (Nat.le_refl _) _
            clear hK K hHeld
            have hHeld := hHeld2
            clear hHeld2
            (try simp only [Act.put, List.setIfInBounds_toArray, List.set_cons_zero, List.set_cons_succ])
            refine wpAnyH_done (by kernel_rfl) ?_ _
            refine NoPanic.normal ?_
            go_wp2_with (fail)
            go_meet
            exact ⟨rfl, setRow_heap _ _ #[Value.int IntKind.i64 0, Value.int IntKind.i64 0, Value.int IntKind.i64 0] _ _ _ NB.out, below_setRow (below_al (below_drewN (Below.refl _ _) 1) _) (Nat.le_refl _) _⟩
          exact AllReadyH.nil
        exact AllReadyH.nil
      case rest =>
        obtain ⟨rfl, hx, B3⟩ := hcut
        have FP := Lib.hid (HQ.out.fresh (Nat.le_refl _))
        have h3 := HQ.out.below B3
        have hBw : B ≤ wr.heap.size := by have := bel.size; omega
        have bel3 := bel.trans (B3.mono hBw)
        have hBV : B ≤ wc.heap.size := Nat.le_trans hBw B3.size
        have HE := Lib.hid (show 0 ≤ (⟨(IntKind.u64.wrap x).tmod 1000, (IntKind.u64.wrap y).tmod 5, (IntKind.u64.wrap z).tmod 20⟩ : Ev).t ∧ (⟨(IntKind.u64.wrap x).tmod 1000, (IntKind.u64.wrap y).tmod 5, (IntKind.u64.wrap z).tmod 20⟩ : Ev).t ≤ 4611686018427387904 ∧ 0 ≤ (⟨(IntKind.u64.wrap x).tmod 1000, (IntKind.u64.wrap y).tmod 5, (IntKind.u64.wrap z).tmod 20⟩ : Ev).k ∧ 0 ≤ (⟨(IntKind.u64.wrap x).tmod 1000, (IntKind.u64.wrap y).tmod 5, (IntKind.u64.wrap z).tmod 20⟩ : Ev).d from HE0.out)
        clear w0 w1' w2' HE0 c0 c1 c2 NB bel HQ zad B3
        generalize (⟨(IntKind.u64.wrap x).tmod 1000, (IntKind.u64.wrap y).tmod 5, (IntKind.u64.wrap z).tmod 20⟩ : Ev) = E at *
        generalize wr.heap.size = p at *
        generalize hV : wc = V at *
        clear hV
        have zp := hx.lt
        have x0 : V.cell? ⟨p, 0, none⟩ = some (.int .i64 E.t) := by rw [hx.cell]; rfl
        have x1 : V.cell? ⟨p, 1, none⟩ = some (.int .i64 E.k) := by rw [hx.cell]; rfl
        have x2 : V.cell? ⟨p, 2, none⟩ = some (.int .i64 E.d) := by rw [hx.cell]; rfl
        have FD := Lib.hid (find_ok B Q B n hv 200 f m E.k E.d V h3)
        have ST := Lib.hid (set_ok B Q B n hv 200 f m E V h3 hBV (by omega) (by omega) (Or.inr (by omega)) HE.out.1 HE.out.2.1 HE.out.2.2.1 HE.out.2.2.2)
        unfold evV at ST
        have HX := Lib.hid hx
        have HQ3 := Lib.hid h3
        clear hx h3
        cases hm : m E.k E.d with
        | none =>
          rw [hm] at FD
          simp only [Option.isSome] at FD
          go_wp2_with (fail)
          refine FD.out.mono ?_
          rintro v w3 ⟨rfl, rfl⟩
          go_wp2_with (fail)
          refine ST.out.mono ?_
          rintro v w4 ⟨rfl, ⟨hv4, n4, f4, m4, h4, e4, s4⟩, F4⟩
          have hb4 : Blk w4 p 31 (evV E) := (F4.far p zp FP.out.1 FP.out.2.1 FP.out.2.2).trans HX.out
          have hn4 : n + 1 = n4 := by rw [e4, hm]; rfl
          obtain ⟨j, hj, hfj, hmj⟩ := h4.some_of ((s4 E).2 (Or.inl rfl))
          have bel4 := bel3.trans F4.bel
          have pos4 : ∀ x, Mem n4 f4 x → 0 ≤ x.t := fun x hx => by
            rcases (s4 x).1 hx with rfl | ⟨h, _⟩
            · exact HE.out.1
            · exact HPOS.out x h
          have FD4 := Lib.hid (find_ok B Q B n4 hv4 200 f4 m4 E.k E.d w4 h4)
          rw [hmj] at FD4
          simp only [hfj, Option.isSome] at FD4
          obtain ⟨A4, cap4, rfl⟩ := h4.slice
          have LN := Lib.hid (len_walk Q B 200 A4 n4 cap4 w4 h4.qb)
          have x0 : w4.cell? ⟨p, 0, none⟩ = some (.int .i64 E.t) := by rw [hb4.cell]; rfl
          have x1 : w4.cell? ⟨p, 1, none⟩ = some (.int .i64 E.k) := by rw [hb4.cell]; rfl
          have x2 : w4.cell? ⟨p, 2, none⟩ = some (.int .i64 E.d) := by rw [hb4.cell]; rfl
          have zp4 := hb4.lt
          have H4 := Lib.hid h4
          have P4 := Lib.hid pos4
          clear FD ST HX F4 e4 s4 hfj hmj h4 hb4 pos4 hj bel3 FP HPOS HQ3
          subst hn4
          have ee : (E.t != E.t) = false := by simp
          have en : (((n : Int) + 1) != (n : Int) + 1) = false := by simp
          go_wp2_with (fail)
          refine FD4.out.mono ?_
          rintro v w5 ⟨rfl, rfl⟩
          go_wp2_with (fail)
          refine LN.out.mono ?_
          rintro v w6 ⟨rfl, rfl⟩
          push_cast
          go_wp2_with (fail)
          go_roundw
          case rel => exact ⟨k + 1, n + 1, _, f4, m4, by omega, by omega, by omega, by go_num, by first | rfl | go_num, H4.out, P4.out, bel4⟩
          case measure => simp [intOf]; omega
        | some i =>
          rw [hm] at FD
          simp only [Option.isSome] at FD
          generalize (f i).t = ti at FD
          go_wp2_with (fail)
          refine FD.out.mono ?_
          rintro v w3 ⟨rfl, rfl⟩
          go_wp2_with (fail)
          refine ST.out.mono ?_
          rintro v w4 ⟨rfl, ⟨hv4, n4, f4, m4, h4, e4, s4⟩, F4⟩
          have hb4 : Blk w4 p 31 (evV E) := (F4.far p zp FP.out.1 FP.out.2.1 FP.out.2.2).trans HX.out
          have hn4 : n = n4 := by rw [e4, hm]; rfl
          obtain ⟨j, hj, hfj, hmj⟩ := h4.some_of ((s4 E).2 (Or.inl rfl))
          have bel4 := bel3.trans F4.bel
          have pos4 : ∀ x, Mem n4 f4 x → 0 ≤ x.t := fun x hx => by
            rcases (s4 x).1 hx with rfl | ⟨h, _⟩
            · exact HE.out.1
            · exact HPOS.out x h
          have FD4 := Lib.hid (find_ok B Q B n4 hv4 200 f4 m4 E.k E.d w4 h4)
          rw [hmj] at FD4
          simp only [hfj, Option.isSome] at FD4
          obtain ⟨A4, cap4, rfl⟩ := h4.slice
          have LN := Lib.hid (len_walk Q B 200 A4 n4 cap4 w4 h4.qb)
          have x0 : w4.cell? ⟨p, 0, none⟩ = some (.int .i64 E.t) := by rw [hb4.cell]; rfl
          have x1 : w4.cell? ⟨p, 1, none⟩ = some (.int .i64 E.k) := by rw [hb4.cell]; rfl
          have x2 : w4.cell? ⟨p, 2, none⟩ = some (.int .i64 E.d) := by rw [hb4.cell]; rfl
          have zp4 := hb4.lt
          have H4 := Lib.hid h4
          have P4 := Lib.hid pos4
          clear FD ST HX F4 e4 s4 hfj hmj h4 hb4 pos4 hj bel3 FP HPOS HQ3
          subst hn4
          have ee : (E.t != E.t) = false := by simp
          have en : (((n : Int)) != (n : Int)) = false := by simp
          go_wp2_with (fail)
          refine FD4.out.mono ?_
          rintro v w5 ⟨rfl, rfl⟩
          go_wp2_with (fail)
          refine LN.out.mono ?_
          rintro v w6 ⟨rfl, rfl⟩
          push_cast
          go_wp2_with (fail)
          go_roundw
          case rel => exact ⟨k + 1, n, _, f4, m4, by omega, by omega, by omega, by go_num, by first | rfl | go_num, H4.out, P4.out, bel4⟩
          case measure => simp [intOf]; omega
    · have hlt' : ¬ k < N ∨ (k < N ∧ ¬ k < 200) := by omega
      rcases hlt' with h1 | ⟨h1, h2⟩
      all_goals
        go_upto_region 18 with (fail)
        have bL := Blk.new wr 31 #[.int .i64 (-1), .int .i64 0, .int .i64 0]
        have BL := below_al (Below.refl wr.heap.size wr) (.cells #[.int .i64 (-1), .int .i64 0, .int .i64 0] 31)
        have hBw : B ≤ wr.heap.size := by have := bel.size; omega
        have hqL := hq.below BL
        have belL := bel.trans (BL.mono hBw)
        obtain ⟨f1, f2, f3⟩ := hq.fresh (Nat.le_refl wr.heap.size)
        have posL : ∀ x, Mem n f x → ¬ ltE x ⟨-1, 0, 0⟩ := fun x hx h => by have := hpos x hx; unfold ltE at h; simp only at h; omega
        clear hq bel BL hpos
        generalize wr.alloc (Obj.cells #[Value.int IntKind.i64 (-1), Value.int IntKind.i64 0, Value.int IntKind.i64 0] 31) = WL at *
        generalize wr.heap.size = L at *
        go_upto_region 19 with (fail)
        go_loopw [13] (fun iv wr2 => ∃ (k2 n2 : Nat) (hv2 : Value) (f2 : Nat → Ev) (m2 : Int → Int → Option Nat) (lst : Ev), k2 + n2 = n ∧ iv = .int .i64 k2 ∧ QS B wr2 Q B hv2 200 n2 f2 m2 ∧ Blk wr2 L 31 (evV lst) ∧ (L ≠ Q ∧ L ≠ B ∧ hv2.ownBlock ≠ some L) ∧ B ≤ L ∧ (∀ x, Mem n2 f2 x → ¬ ltE x lst) ∧ Below B w wr2) (fun iv _ => n - (intOf iv).toNat)
        case atStart => exact ⟨0, n, hv, f, m, ⟨-1, 0, 0⟩, by omega, rfl, hqL, bL, ⟨f1, f2, f3⟩, hBw, posL, belL⟩
        case round =>
          clear hqL bL posL belL f1 f2 f3
          obtain ⟨k2, n2, hv2, f2, m2, lst, hkn, rfl, hq, hbl, ⟨l1, l2, l3⟩, hLB, hms, bel⟩ := hrel
          have hBw : B ≤ wr.heap.size := by have := bel.size; omega
          have kk0 : (0 : Int) ≤ k2 := by omega
          by_cases hn2 : 0 < n2
          · obtain ⟨n3, rfl⟩ : ∃ n3, n2 = n3 + 1 := ⟨n2 - 1, by omega⟩
            have hkn' : (k2 : Int) < n := by omega
            have FS := Lib.hid (first_ok B Q B n3 hv2 200 f2 m2 wr hq)
            have HQ := Lib.hid hq
            have HL := Lib.hid hbl
            have HMS := Lib.hid (fun w h hB => pop_ok B Q B n3 hv2 200 f2 m2 w h hB (by omega))
            have NA := Lib.hid (show decide (ltE (f2 0) lst) = false from decide_eq_false (hms _ ⟨0, by omega, rfl⟩))
            have MS := Lib.hid hms
            clear hq hbl hms
            generalize hE : f2 0 = E at *
            go_wp2_with (fail)
            refine FS.out.mono ?_
            rintro v w1 ⟨rfl, B1⟩
            have hq1 := HQ.out.below B1
            have hl1 := HL.out.below B1
            have bel1 := bel.trans (B1.mono hBw)
            have hBw1 : B ≤ w1.heap.size := Nat.le_trans hBw B1.size
            clear FS HQ HL bel B1 hBw
            unfold evV
            go_upto_region 22 with (fail)
            have bx := Blk.new w1 31 (evV E)
            have BX := below_al (Below.refl w1.heap.size w1) (.cells (evV E) 31)
            have hq2 := hq1.below BX
            have hl2 := hl1.below BX
            have bel2 := bel1.trans (BX.mono hBw1)
            have FP := Lib.hid (hq1.fresh (Nat.le_refl w1.heap.size))
            have zp0 := bx.lt
            have hlt1 := hl1.lt
            clear hq1 hl1 bel1 BX
            unfold evV at bx hq2 hl2 bel2 zp0
            generalize hW2 : w1.alloc (Obj.cells #[Value.int IntKind.i64 E.t, Value.int IntKind.i64 E.k, Value.int IntKind.i64 E.d] 31) = W2 at *
            have hBw2 : B ≤ W2.heap.size := by omega
            generalize hp : w1.heap.size = p at *
            have PP := Lib.hid (HMS.out W2 hq2 hBw2)
            have HX := Lib.hid bx
            have HL := Lib.hid hl2
            have zl2 := hl2.lt
            clear hW2 HMS hq2 bx hl2
            unfold evV at PP
            go_wp2_with (fail)
            refine PP.out.mono ?_
            rintro v w3 ⟨rfl, ⟨hv3, f3, m3, h3, ho3, hs3⟩, F3⟩
            have bx3 : Blk w3 p 31 (evV E) := (F3.far p zp0 FP.out.1 FP.out.2.1 FP.out.2.2).trans HX.out
            have bl3 : Blk w3 L 31 (evV lst) := (F3.far L zl2 l1 l2 l3).trans HL.out
            have bel3 := bel2.trans F3.bel
            have hBw3 : B ≤ w3.heap.size := Nat.le_trans hBw2 F3.bel.size
            have l3' : hv3.ownBlock ≠ some L := by rw [ho3]; exact l3
            clear PP HX HL F3 bel2
            go_upto_region 23 with (fail)
            have by3 := Blk.new w3 31 (evV E)
            have BY := below_al (Below.refl w3.heap.size w3) (.cells (evV E) 31)
            have h4 := h3.below BY
            have bx4 := bx3.below BY
            have bl4 := bl3.below BY
            have bel4 := bel3.trans (BY.mono hBw3)
            have hnL : L ≠ w3.heap.size := by have := bl3.lt; omega
            clear h3 bx3 bl3 bel3 BY
            unfold evV at by3 h4 bx4 bel4
            generalize hW4 : w3.alloc (Obj.cells #[Value.int IntKind.i64 E.t, Value.int IntKind.i64 E.k, Value.int IntKind.i64 E.d] 31) = W4 at *
            generalize hp4 : w3.heap.size = p4 at *
            have bl4' : W4.heap[L]? = some (.cells (evV lst) 31 (0, 0)) := by rw [← hW4]; exact bl4
            clear hW4 bl4
            have hBw4 : B ≤ W4.heap.size := by have := by3.lt; omega
            have x0 : W4.cell? ⟨p, 0, none⟩ = some (.int .i64 E.t) := by rw [bx4.cell]; rfl
            have x1 : W4.cell? ⟨p, 1, none⟩ = some (.int .i64 E.k) := by rw [bx4.cell]; rfl
            have x2 : W4.cell? ⟨p, 2, none⟩ = some (.int .i64 E.d) := by rw [bx4.cell]; rfl
            have y0 : W4.cell? ⟨p4, 0, none⟩ = some (.int .i64 E.t) := by rw [by3.cell]; rfl
            have y1 : W4.cell? ⟨p4, 1, none⟩ = some (.int .i64 E.k) := by rw [by3.cell]; rfl
            have y2 : W4.cell? ⟨p4, 2, none⟩ = some (.int .i64 E.d) := by rw [by3.cell]; rfl
            have zp := bx4.lt
            have zp4 := by3.lt
            have bl5 : Blk W4 L 31 (evV lst) := bl4'
            have L0 : W4.cell? ⟨L, 0, none⟩ = some (.int .i64 lst.t) := by rw [bl5.cell]; rfl
            have L1 : W4.cell? ⟨L, 1, none⟩ = some (.int .i64 lst.k) := by rw [bl5.cell]; rfl
            have L2 : W4.cell? ⟨L, 2, none⟩ = some (.int .i64 lst.d) := by rw [bl5.cell]; rfl
            have zL := bl5.lt
            have AH := Lib.hid (ahead_walk E lst W4)
            rw [NA.out] at AH
            unfold evV at AH
            have e1 : (E.t == E.t) = true := by simp
            have e2 : (E.k == E.k) = true := by simp
            have e3 : (E.d == E.d) = true := by simp
            have BL4 := Lib.hid bl4'
            have BY4 := Lib.hid by3
            have H4 := Lib.hid h4
            clear bl4' by3 h4 bl5 bx4
            go_wp2_with (fail)
            have NO := Lib.hid (show m3 E.k E.d = none from H4.out.none_of (fun x hx hk => (hs3 x hx).2.2 hk))
            have HS3 := Lib.hid hs3
            clear hs3
            refine AH.out.mono ?_
            rintro v w5 ⟨rfl, B5⟩
            have h5 := H4.out.below B5
            have bel5 := bel4.trans (B5.mono hBw4)
            have by5 : Blk w5 p4 31 (evV E) := BY4.out.below B5
            have bL5 : w5.heap[L]? = some (.cells (evV lst) 31 (0, 0)) := Blk.below (t := 31) (cs := evV lst) BL4.out B5
            clear AH H4 BY4 BL4 B5 bel4 x0 x1 x2 y0 y1 y2 L0 L1 L2 zp zp4 zL e1 e2 e3
            have y0 : w5.cell? ⟨p4, 0, none⟩ = some (.int .i64 E.t) := by rw [by5.cell]; rfl
            have y1 : w5.cell? ⟨p4, 1, none⟩ = some (.int .i64 E.k) := by rw [by5.cell]; rfl
            have y2 : w5.cell? ⟨p4, 2, none⟩ = some (.int .i64 E.d) := by rw [by5.cell]; rfl
            have zp4 := by5.lt
            have FD := Lib.hid (find_ok B Q B n3 hv3 200 f3 m3 E.k E.d w5 h5)
            rw [NO.out] at FD
            simp only [Option.isSome] at FD
            have H5 := Lib.hid h5
            have BL5 := Lib.hid bL5
            clear h5 bL5 by5
            go_wp2_with (fail)
            refine FD.out.mono ?_
            rintro v w6 ⟨rfl, rfl⟩
            clear FD
            go_wp2_with (first | refine wpList_store_row rfl 31 _ _ rfl L (evV E) rfl rfl 31 (evV lst) BL5.out (by kernel_rfl) rfl (ev_one _) ?_)
            go_roundw
            case rel => exact ⟨k2 + 1, n3, hv3, f3, m3, E, by omega, by go_num, H5.out.setRow l1 l2 l3' _, setRow_heap _ _ _ _ _ _ BL5.out, ⟨l1, l2, l3'⟩, hLB, fun x hx h => ltE_asymm (HS3.out x hx).2.1 h, below_setRow bel5 (by omega) _⟩
            case measure => simp [intOf]; omega
          · obtain rfl : n2 = 0 := by omega
            obtain rfl : k2 = n := by omega
            obtain ⟨A2, c2, rfl⟩ := hq.slice
            have PN := Lib.hid (pop_none Q B 200 A2 c2 wr hq.qb)
            unfold z31 at PN
            have HQ := Lib.hid hq.qb
            clear hq hms hbl
            go_wp2_with (fail)
            refine PN.out.mono ?_
            rintro v w1 ⟨rfl, B1⟩
            have hq1 := HQ.out.below B1
            have bel1 := bel.trans (B1.mono hBw)
            have hBw1 : B ≤ w1.heap.size := Nat.le_trans hBw B1.size
            clear PN HQ B1 bel
            go_upto_region 30 with (fail)
            have BX := below_al (Below.refl w1.heap.size w1) (.cells #[.int .i64 0, .int .i64 0, .int .i64 0] 31)
            have hq2 := hq1.below BX
            have bel2 := bel1.trans (BX.mono hBw1)
            have hBw2 : B ≤ (w1.alloc (Obj.cells #[Value.int IntKind.i64 0, Value.int IntKind.i64 0, Value.int IntKind.i64 0] 31)).heap.size := Nat.le_trans hBw1 BX.size
            clear hq1 bel1 BX
            generalize w1.alloc (Obj.cells #[Value.int IntKind.i64 0, Value.int IntKind.i64 0, Value.int IntKind.i64 0] 31) = W2 at *
            have LN := Lib.hid (len_walk Q B 200 A2 0 c2 W2 hq2)
            clear hq2
            go_wp2_with (fail)
            refine LN.out.mono ?_
            rintro v w3 ⟨rfl, rfl⟩
            go_wp2_with (fail)
            refine (sure_walk _).mono ?_
            rintro v w4 ⟨rfl, B4⟩
            have bel4 := bel2.trans (B4.mono hBw2)
            go_wp2
            go_ret
            exact ⟨rfl, by rw [hB]; exact bel4⟩
end Go.Proofs.Ytfbbkeekpkbjhaa
