/- swap, walked. -/
import Derived.Test.YtfbbkeekpkbjhaaDoorR2
import Derived.Deep.RegionHeld3
import Derived.Deep.CutRange
import Derived.Deep.CutBlock
import Derived.Laws.CopyOwn
namespace Go.Proofs.YtfbbkeekpkbjhaaDoor
open Go.RowKit
section
variable {P : Program} {ops : Array Oper} {Q : Exit → Act → World → Prop} {md : Region.Mode} {S : World → Prop}
theorem op_at {i : Nat} {oi : Oper} (h : ops.toList[i]? = some oi) : ops[i]? = some oi := by rw [← Array.getElem?_toList]; exact h
/-- The i-th operation comes up, runs, and yields v in every world that meets S. -/
theorem reg_take {i : Nat} {oi : Oper} {v : Value} {fuel : Nat} {listed : Array Bool} {a : Act} {w : World} (hi : ops.toList[i]? = some oi)
    (hs : Region.noSelect ops = true) (hf : Region.free md ops listed i = true) (hr : (Region.ready md ops listed).contains i = true)
    (hQ : ∀ c a w, Q (.panic c) (a.put oi.dst v) w → Q (.panic c) a w) (hw : Region.wanted oi (yielded ops a.tmps) = true) (hy : ∀ w, S w → (execOp a.eval oi).run P w = .ok (.value v) w) (hS : S w)
    (h : wpAnyH P md ops Q S fuel (listed.setIfInBounds i true) (a.put oi.dst v) w) : wpAnyH P md ops Q S (fuel + 1) listed a w :=
  wpAnyH_take (op_at hi) hs hf hr hQ (Or.inl ⟨hw, hy⟩) hS h
/-- The i-th operation comes up, and is left out. -/
theorem reg_skip {i : Nat} {oi : Oper} {fuel : Nat} {listed : Array Bool} {a : Act} {w : World} (hi : ops.toList[i]? = some oi)
    (hs : Region.noSelect ops = true) (hf : Region.free md ops listed i = true) (hr : (Region.ready md ops listed).contains i = true)
    (hQ : ∀ c a w, Q (.panic c) (a.put oi.dst undef) w → Q (.panic c) a w) (hw : Region.wanted oi (yielded ops a.tmps) = false) (hS : S w)
    (h : wpAnyH P md ops Q S fuel (listed.setIfInBounds i true) (a.put oi.dst undef) w) : wpAnyH P md ops Q S (fuel + 1) listed a w :=
  wpAnyH_take (op_at hi) hs hf hr hQ (Or.inr ⟨hw, rfl⟩) hS h
theorem reg_each {fuel : Nat} {listed : Array Bool} {a : Act} {w : World} {i : Nat} {o : Oper} {rs : List Nat} (ho : ops.toList[i]? = some o)
    (h : ∀ K' : Act → World → Prop, Shut (∀ a w, S w → (S w → wpAnyH P md ops Q S fuel (listed.setIfInBounds i true) a w) → K' a w) → if Region.wanted o (yielded ops a.tmps) = true then Oper.wp P o a w K' Q else K' (a.put o.dst undef) w)
    (hs : AllReadyH P md ops Q S fuel listed a w rs) : AllReadyH P md ops Q S fuel listed a w (i :: rs) := AllReadyH.cons (op_at ho) h hs
end
theorem ev_one (e : Ev) : (evV e).all (·.oneCell') = true := by simp [evV, Value.oneCell']
theorem bel_cell {w w' : World} {p : Addr} {v : Value} (h : Below w.heap.size w w') (c : w.cell? p = some v) : w'.cell? p = some v := (h.cell (World.block_lt_of_cell? w p c)).trans c
set_option linter.unusedSimpArgs false in
set_option linter.unusedVariables false in
set_option maxRecDepth 100000 in
set_option maxHeartbeats 1000000 in
theorem swap_walk (q r g cap n i k : Nat) (room : Int) (f : Nat → Ev) (m : Int → Int → Option Nat) (w : World) (h : QRep w q r g cap room n f m) (hi : i < n) (hk : k < n) :
    Calls Tryd.prog 29 #[.pointer (some ⟨q, 0, none⟩), .int .i64 i, .int .i64 k] w fun x w' => x = .returned (.tuple #[]) ∧ QRep w' q r g cap room n (fupd (fupd f i (f k)) k (f i)) (mupd (mupd m (f k).k (f k).d i) (f i).k (f i).d k) ∧ QFr w w' q r g := by
  have c1 : w.cell? ⟨q, 1, none⟩ = some (.slice (some ⟨g, 0, none⟩) n cap) := by rw [h.qb.cell]; rfl
  have zq := h.qb.lt
  have zg := h.hr.lt
  have zr := h.mr.lt
  obtain ⟨x0, x1, x2⟩ := h.hr.cells hi
  obtain ⟨y0, y1, y2⟩ := h.hr.cells hk
  have i0 : (0 : Int) ≤ i := by omega
  have i1 : (i : Int) < n := by omega
  have k0 : (0 : Int) ≤ k := by omega
  have k1 : (k : Int) < n := by omega
  have HP1 := Lib.hid (fun w h => put_walk q r g cap n i room f m (f k) w h hi)
  have HP2 := Lib.hid (fun w h => put_walk q r g cap n k room (fupd f i (f k)) (mupd m (f k).k (f k).d i) (f i) w h hk)
  have H := Lib.hid h
  clear h
  go_enter Tryd.func29, Tryd.ntmps29
  go_upto_region 0 with (fail)
  generalize hG : w.heap.size = G
  go_cut [6, 7] from 8 to 29 (fun v6 v7 wx => ∃ b6 b7, v6 = .pointer (some ⟨b6, 0, none⟩) ∧ v7 = .pointer (some ⟨b7, 0, none⟩) ∧ Blk wx b6 30 (evV (f i)) ∧ Blk wx b7 30 (evV (f k)) ∧ (b6 ≠ q ∧ b6 ≠ r ∧ b6 ≠ g) ∧ Below w.heap.size w wx)
  case first =>
    refine wp_region_noPanic ?_
    refine wp_region_held_drew (S := (fun w' => Below w.heap.size w w')) (by kernel_rfl) ?_ (fun hHeld => ?_)
    · exact below_drewN (Below.refl _ _) 1
    refine reg_take (i := 0) (oi := _) (v := ?_) rfl (by kernel_rfl) (by kernel_rfl) (by kernel_rfl) (fun _ _ _ h => h) (by rfl) ?_ (by assumption) ?_
    rotate_left
    · intro w hSw; (try dsimp only at hSw); replace c1 := bel_cell hSw c1; replace x0 := bel_cell hSw x0; replace x1 := bel_cell hSw x1; replace x2 := bel_cell hSw x2; replace y0 := bel_cell hSw y0; replace y1 := bel_cell hSw y1; replace y2 := bel_cell hSw y2; replace zq := Nat.lt_of_lt_of_le zq hSw.size; replace zg := Nat.lt_of_lt_of_le zg hSw.size; go_simp; try with_reducible rfl
    (try simp only [Act.put, List.setIfInBounds_toArray, List.set_cons_zero, List.set_cons_succ])
    refine reg_take (i := 1) (oi := _) (v := ?_) rfl (by kernel_rfl) (by kernel_rfl) (by kernel_rfl) (fun _ _ _ h => h) (by rfl) ?_ (by assumption) ?_
    rotate_left
    · intro w hSw; (try dsimp only at hSw); replace c1 := bel_cell hSw c1; replace x0 := bel_cell hSw x0; replace x1 := bel_cell hSw x1; replace x2 := bel_cell hSw x2; replace y0 := bel_cell hSw y0; replace y1 := bel_cell hSw y1; replace y2 := bel_cell hSw y2; replace zq := Nat.lt_of_lt_of_le zq hSw.size; replace zg := Nat.lt_of_lt_of_le zg hSw.size; go_simp; try with_reducible rfl
    (try simp only [Act.put, List.setIfInBounds_toArray, List.set_cons_zero, List.set_cons_succ])
    refine reg_take (i := 2) (oi := _) (v := ?_) rfl (by kernel_rfl) (by kernel_rfl) (by kernel_rfl) (fun _ _ _ h => h) (by rfl) ?_ (by assumption) ?_
    rotate_left
    · intro w hSw; (try dsimp only at hSw); replace c1 := bel_cell hSw c1; replace x0 := bel_cell hSw x0; replace x1 := bel_cell hSw x1; replace x2 := bel_cell hSw x2; replace y0 := bel_cell hSw y0; replace y1 := bel_cell hSw y1; replace y2 := bel_cell hSw y2; replace zq := Nat.lt_of_lt_of_le zq hSw.size; replace zg := Nat.lt_of_lt_of_le zg hSw.size; go_simp; try with_reducible rfl
    (try simp only [Act.put, List.setIfInBounds_toArray, List.set_cons_zero, List.set_cons_succ])
    refine reg_take (i := 3) (oi := _) (v := ?_) rfl (by kernel_rfl) (by kernel_rfl) (by kernel_rfl) (fun _ _ _ h => h) (by rfl) ?_ (by assumption) ?_
    rotate_left
    · intro w hSw; (try dsimp only at hSw); replace c1 := bel_cell hSw c1; replace x0 := bel_cell hSw x0; replace x1 := bel_cell hSw x1; replace x2 := bel_cell hSw x2; replace y0 := bel_cell hSw y0; replace y1 := bel_cell hSw y1; replace y2 := bel_cell hSw y2; replace zq := Nat.lt_of_lt_of_le zq hSw.size; replace zg := Nat.lt_of_lt_of_le zg hSw.size; go_simp; try with_reducible rfl
    (try simp only [Act.put, List.setIfInBounds_toArray, List.set_cons_zero, List.set_cons_succ])
    refine reg_take (i := 4) (oi := _) (v := ?_) rfl (by kernel_rfl) (by kernel_rfl) (by kernel_rfl) (fun _ _ _ h => h) (by rfl) ?_ (by assumption) ?_
    rotate_left
    · intro w hSw; (try dsimp only at hSw); replace c1 := bel_cell hSw c1; replace x0 := bel_cell hSw x0; replace x1 := bel_cell hSw x1; replace x2 := bel_cell hSw x2; replace y0 := bel_cell hSw y0; replace y1 := bel_cell hSw y1; replace y2 := bel_cell hSw y2; replace zq := Nat.lt_of_lt_of_le zq hSw.size; replace zg := Nat.lt_of_lt_of_le zg hSw.size; go_simp; try with_reducible rfl
    (try simp only [Act.put, List.setIfInBounds_toArray, List.set_cons_zero, List.set_cons_succ])
    refine reg_take (i := 5) (oi := _) (v := ?_) rfl (by kernel_rfl) (by kernel_rfl) (by kernel_rfl) (fun _ _ _ h => h) (by rfl) ?_ (by assumption) ?_
    rotate_left
    · intro w hSw; (try dsimp only at hSw); replace c1 := bel_cell hSw c1; replace x0 := bel_cell hSw x0; replace x1 := bel_cell hSw x1; replace x2 := bel_cell hSw x2; replace y0 := bel_cell hSw y0; replace y1 := bel_cell hSw y1; replace y2 := bel_cell hSw y2; replace zq := Nat.lt_of_lt_of_le zq hSw.size; replace zg := Nat.lt_of_lt_of_le zg hSw.size; go_simp; try with_reducible rfl
    (try simp only [Act.put, List.setIfInBounds_toArray, List.set_cons_zero, List.set_cons_succ])
    refine reg_take (i := 6) (oi := _) (v := ?_) rfl (by kernel_rfl) (by kernel_rfl) (by kernel_rfl) (fun _ _ _ h => h) (by rfl) ?_ (by assumption) ?_
    rotate_left
    · intro w hSw; (try dsimp only at hSw); replace c1 := bel_cell hSw c1; replace x0 := bel_cell hSw x0; replace x1 := bel_cell hSw x1; replace x2 := bel_cell hSw x2; replace y0 := bel_cell hSw y0; replace y1 := bel_cell hSw y1; replace y2 := bel_cell hSw y2; replace zq := Nat.lt_of_lt_of_le zq hSw.size; replace zg := Nat.lt_of_lt_of_le zg hSw.size; go_simp; try with_reducible rfl
    (try simp only [Act.put, List.setIfInBounds_toArray, List.set_cons_zero, List.set_cons_succ])
    refine reg_take (i := 7) (oi := _) (v := ?_) rfl (by kernel_rfl) (by kernel_rfl) (by kernel_rfl) (fun _ _ _ h => h) (by rfl) ?_ (by assumption) ?_
    rotate_left
    · intro w hSw; (try dsimp only at hSw); replace c1 := bel_cell hSw c1; replace x0 := bel_cell hSw x0; replace x1 := bel_cell hSw x1; replace x2 := bel_cell hSw x2; replace y0 := bel_cell hSw y0; replace y1 := bel_cell hSw y1; replace y2 := bel_cell hSw y2; replace zq := Nat.lt_of_lt_of_le zq hSw.size; replace zg := Nat.lt_of_lt_of_le zg hSw.size; go_simp; try with_reducible rfl
    (try simp only [Act.put, List.setIfInBounds_toArray, List.set_cons_zero, List.set_cons_succ])
    refine reg_take (i := 8) (oi := _) (v := ?_) rfl (by kernel_rfl) (by kernel_rfl) (by kernel_rfl) (fun _ _ _ h => h) (by rfl) ?_ (by assumption) ?_
    rotate_left
    · intro w hSw; (try dsimp only at hSw); replace c1 := bel_cell hSw c1; replace x0 := bel_cell hSw x0; replace x1 := bel_cell hSw x1; replace x2 := bel_cell hSw x2; replace y0 := bel_cell hSw y0; replace y1 := bel_cell hSw y1; replace y2 := bel_cell hSw y2; replace zq := Nat.lt_of_lt_of_le zq hSw.size; replace zg := Nat.lt_of_lt_of_le zg hSw.size; go_simp; try with_reducible rfl
    (try simp only [Act.put, List.setIfInBounds_toArray, List.set_cons_zero, List.set_cons_succ])
    refine reg_take (i := 9) (oi := _) (v := ?_) rfl (by kernel_rfl) (by kernel_rfl) (by kernel_rfl) (fun _ _ _ h => h) (by rfl) ?_ (by assumption) ?_
    rotate_left
    · intro w hSw; (try dsimp only at hSw); replace c1 := bel_cell hSw c1; replace x0 := bel_cell hSw x0; replace x1 := bel_cell hSw x1; replace x2 := bel_cell hSw x2; replace y0 := bel_cell hSw y0; replace y1 := bel_cell hSw y1; replace y2 := bel_cell hSw y2; replace zq := Nat.lt_of_lt_of_le zq hSw.size; replace zg := Nat.lt_of_lt_of_le zg hSw.size; go_simp; try with_reducible rfl
    (try simp only [Act.put, List.setIfInBounds_toArray, List.set_cons_zero, List.set_cons_succ])
    refine reg_take (i := 10) (oi := _) (v := ?_) rfl (by kernel_rfl) (by kernel_rfl) (by kernel_rfl) (fun _ _ _ h => h) (by rfl) ?_ (by assumption) ?_
    rotate_left
    · intro w hSw; (try dsimp only at hSw); replace c1 := bel_cell hSw c1; replace x0 := bel_cell hSw x0; replace x1 := bel_cell hSw x1; replace x2 := bel_cell hSw x2; replace y0 := bel_cell hSw y0; replace y1 := bel_cell hSw y1; replace y2 := bel_cell hSw y2; replace zq := Nat.lt_of_lt_of_le zq hSw.size; replace zg := Nat.lt_of_lt_of_le zg hSw.size; go_simp; try with_reducible rfl
    (try simp only [Act.put, List.setIfInBounds_toArray, List.set_cons_zero, List.set_cons_succ])
    refine reg_take (i := 11) (oi := _) (v := ?_) rfl (by kernel_rfl) (by kernel_rfl) (by kernel_rfl) (fun _ _ _ h => h) (by rfl) ?_ (by assumption) ?_
    rotate_left
    · intro w hSw; (try dsimp only at hSw); replace c1 := bel_cell hSw c1; replace x0 := bel_cell hSw x0; replace x1 := bel_cell hSw x1; replace x2 := bel_cell hSw x2; replace y0 := bel_cell hSw y0; replace y1 := bel_cell hSw y1; replace y2 := bel_cell hSw y2; replace zq := Nat.lt_of_lt_of_le zq hSw.size; replace zg := Nat.lt_of_lt_of_le zg hSw.size; go_simp; try with_reducible rfl
    (try simp only [Act.put, List.setIfInBounds_toArray, List.set_cons_zero, List.set_cons_succ])
    refine reg_take (i := 12) (oi := _) (v := ?_) rfl (by kernel_rfl) (by kernel_rfl) (by kernel_rfl) (fun _ _ _ h => h) (by rfl) ?_ (by assumption) ?_
    rotate_left
    · intro w hSw; (try dsimp only at hSw); replace c1 := bel_cell hSw c1; replace x0 := bel_cell hSw x0; replace x1 := bel_cell hSw x1; replace x2 := bel_cell hSw x2; replace y0 := bel_cell hSw y0; replace y1 := bel_cell hSw y1; replace y2 := bel_cell hSw y2; replace zq := Nat.lt_of_lt_of_le zq hSw.size; replace zg := Nat.lt_of_lt_of_le zg hSw.size; go_simp; try with_reducible rfl
    (try simp only [Act.put, List.setIfInBounds_toArray, List.set_cons_zero, List.set_cons_succ])
    refine reg_take (i := 13) (oi := _) (v := ?_) rfl (by kernel_rfl) (by kernel_rfl) (by kernel_rfl) (fun _ _ _ h => h) (by rfl) ?_ (by assumption) ?_
    rotate_left
    · intro w hSw; (try dsimp only at hSw); replace c1 := bel_cell hSw c1; replace x0 := bel_cell hSw x0; replace x1 := bel_cell hSw x1; replace x2 := bel_cell hSw x2; replace y0 := bel_cell hSw y0; replace y1 := bel_cell hSw y1; replace y2 := bel_cell hSw y2; replace zq := Nat.lt_of_lt_of_le zq hSw.size; replace zg := Nat.lt_of_lt_of_le zg hSw.size; go_simp; try with_reducible rfl
    (try simp only [Act.put, List.setIfInBounds_toArray, List.set_cons_zero, List.set_cons_succ])
    refine wpAnyH_ready (rs := [14, 15]) (by kernel_rfl) (by simp) ?_
    refine reg_each (o := _) rfl (fun K hK => ?_) ?_
    · skip
      go_simp
      refine hK.out _ _ (below_al hHeld _) (fun hHeld2 => ?_)
      clear hK K hHeld
      have hHeld := hHeld2
      clear hHeld2
      (try simp only [Act.put, List.setIfInBounds_toArray, List.set_cons_zero, List.set_cons_succ])
      refine wpAnyH_ready (rs := [15]) (by kernel_rfl) (by simp) ?_
      refine reg_each (o := _) rfl (fun K hK => ?_) ?_
      · skip
        go_simp
        refine hK.out _ _ (below_al hHeld _) (fun hHeld2 => ?_)
        clear hK K hHeld
        have hHeld := hHeld2
        clear hHeld2
        (try simp only [Act.put, List.setIfInBounds_toArray, List.set_cons_zero, List.set_cons_succ])
        have w2new : ((w.alloc (Obj.cells #[Value.int IntKind.i64 0, Value.int IntKind.i64 0, Value.int IntKind.i64 0] 30)).alloc (Obj.cells #[Value.int IntKind.i64 0, Value.int IntKind.i64 0, Value.int IntKind.i64 0] 30)).drew.heap[G]? = some (.cells #[Value.int IntKind.i64 0, Value.int IntKind.i64 0, Value.int IntKind.i64 0] 30 (0, 0)) ∧ ((w.alloc (Obj.cells #[Value.int IntKind.i64 0, Value.int IntKind.i64 0, Value.int IntKind.i64 0] 30)).alloc (Obj.cells #[Value.int IntKind.i64 0, Value.int IntKind.i64 0, Value.int IntKind.i64 0] 30)).drew.heap[G + 1]? = some (.cells #[Value.int IntKind.i64 0, Value.int IntKind.i64 0, Value.int IntKind.i64 0] 30 (0, 0)) := by
          rw [← hG]
          exact ⟨Blk.alloc (Blk.new w 30 _) _, Blk.new1 w _ 30 _⟩
        have B2 : Below w.heap.size w ((w.alloc (Obj.cells #[Value.int IntKind.i64 0, Value.int IntKind.i64 0, Value.int IntKind.i64 0] 30)).alloc (Obj.cells #[Value.int IntKind.i64 0, Value.int IntKind.i64 0, Value.int IntKind.i64 0] 30)).drew := hHeld
        clear hHeld
        generalize ((w.alloc (Obj.cells #[Value.int IntKind.i64 0, Value.int IntKind.i64 0, Value.int IntKind.i64 0] 30)).alloc (Obj.cells #[Value.int IntKind.i64 0, Value.int IntKind.i64 0, Value.int IntKind.i64 0] 30)).drew = W2 at *
        refine wpAnyH_ready (rs := [16]) (by kernel_rfl) (by simp) ?_
        refine reg_each (o := _) rfl (fun K hK => ?_) ?_
        · skip
          rw [if_pos (by rfl)]
          refine wp_store_row 30 _ _ rfl (G) (evV (f i)) rfl rfl 30 #[Value.int IntKind.i64 0, Value.int IntKind.i64 0, Value.int IntKind.i64 0] (w2new.1) (by kernel_rfl) rfl (ev_one _) ?_
          have s6 : Blk (W2.setRow (G) (evV (f i))) (G) 30 (evV (f i)) := setRow_heap _ _ #[Value.int IntKind.i64 0, Value.int IntKind.i64 0, Value.int IntKind.i64 0] _ _ _ (w2new.1)
          have s7 : (W2.setRow (G) (evV (f i))).heap[G + 1]? = some (.cells #[Value.int IntKind.i64 0, Value.int IntKind.i64 0, Value.int IntKind.i64 0] 30 (0, 0)) := (setRow_other _ _ _ _ (by omega)).trans (w2new.2)
          have B3 : Below w.heap.size w (W2.setRow (G) (evV (f i))) := below_setRow B2 (by omega) _
          generalize W2.setRow (G) (evV (f i)) = W3 at *
          refine hK.out _ _ B3 (fun hHeld2 => ?_)
          clear hK K hHeld2
          (try simp only [Act.put, List.setIfInBounds_toArray, List.set_cons_zero, List.set_cons_succ])
          refine wpAnyH_ready (rs := [17]) (by kernel_rfl) (by simp) ?_
          refine reg_each (o := _) rfl (fun K hK => ?_) ?_
          · skip
            rw [if_pos (by rfl)]
            refine wp_store_row 30 _ _ rfl (G + 1) (evV (f k)) rfl rfl 30 #[Value.int IntKind.i64 0, Value.int IntKind.i64 0, Value.int IntKind.i64 0] s7 (by kernel_rfl) rfl (ev_one _) ?_
            have t7 : Blk (W3.setRow (G + 1) (evV (f k))) (G + 1) 30 (evV (f k)) := setRow_heap _ _ #[Value.int IntKind.i64 0, Value.int IntKind.i64 0, Value.int IntKind.i64 0] _ _ _ s7
            have t6 : Blk (W3.setRow (G + 1) (evV (f k))) (G) 30 (evV (f i)) := (setRow_other _ _ _ _ (by omega)).trans s6
            have B4 : Below w.heap.size w (W3.setRow (G + 1) (evV (f k))) := below_setRow B3 (by omega) _
            generalize W3.setRow (G + 1) (evV (f k)) = W4 at *
            refine hK.out _ _ B4 (fun hHeld2 => ?_)
            clear hK K hHeld2
            (try simp only [Act.put, List.setIfInBounds_toArray, List.set_cons_zero, List.set_cons_succ])
            refine wpAnyH_done (by kernel_rfl) ?_ _
            refine NoPanic.normal ?_
            go_wp2_with (fail)
            go_meet
            exact ⟨G, G + 1, rfl, rfl, t6, t7, by omega, B4⟩
          exact AllReadyH.nil
        exact AllReadyH.nil
      exact AllReadyH.nil
    refine reg_each (o := _) rfl (fun K hK => ?_) ?_
    · skip
      go_simp
      refine hK.out _ _ (below_al hHeld _) (fun hHeld2 => ?_)
      clear hK K hHeld
      have hHeld := hHeld2
      clear hHeld2
      (try simp only [Act.put, List.setIfInBounds_toArray, List.set_cons_zero, List.set_cons_succ])
      refine wpAnyH_ready (rs := [14]) (by kernel_rfl) (by simp) ?_
      refine reg_each (o := _) rfl (fun K hK => ?_) ?_
      · skip
        go_simp
        refine hK.out _ _ (below_al hHeld _) (fun hHeld2 => ?_)
        clear hK K hHeld
        have hHeld := hHeld2
        clear hHeld2
        (try simp only [Act.put, List.setIfInBounds_toArray, List.set_cons_zero, List.set_cons_succ])
        have w2new : ((w.alloc (Obj.cells #[Value.int IntKind.i64 0, Value.int IntKind.i64 0, Value.int IntKind.i64 0] 30)).alloc (Obj.cells #[Value.int IntKind.i64 0, Value.int IntKind.i64 0, Value.int IntKind.i64 0] 30)).drew.heap[G]? = some (.cells #[Value.int IntKind.i64 0, Value.int IntKind.i64 0, Value.int IntKind.i64 0] 30 (0, 0)) ∧ ((w.alloc (Obj.cells #[Value.int IntKind.i64 0, Value.int IntKind.i64 0, Value.int IntKind.i64 0] 30)).alloc (Obj.cells #[Value.int IntKind.i64 0, Value.int IntKind.i64 0, Value.int IntKind.i64 0] 30)).drew.heap[G + 1]? = some (.cells #[Value.int IntKind.i64 0, Value.int IntKind.i64 0, Value.int IntKind.i64 0] 30 (0, 0)) := by
          rw [← hG]
          exact ⟨Blk.alloc (Blk.new w 30 _) _, Blk.new1 w _ 30 _⟩
        have B2 : Below w.heap.size w ((w.alloc (Obj.cells #[Value.int IntKind.i64 0, Value.int IntKind.i64 0, Value.int IntKind.i64 0] 30)).alloc (Obj.cells #[Value.int IntKind.i64 0, Value.int IntKind.i64 0, Value.int IntKind.i64 0] 30)).drew := hHeld
        clear hHeld
        generalize ((w.alloc (Obj.cells #[Value.int IntKind.i64 0, Value.int IntKind.i64 0, Value.int IntKind.i64 0] 30)).alloc (Obj.cells #[Value.int IntKind.i64 0, Value.int IntKind.i64 0, Value.int IntKind.i64 0] 30)).drew = W2 at *
        refine wpAnyH_ready (rs := [16]) (by kernel_rfl) (by simp) ?_
        refine reg_each (o := _) rfl (fun K hK => ?_) ?_
        · skip
          rw [if_pos (by rfl)]
          refine wp_store_row 30 _ _ rfl (G + 1) (evV (f i)) rfl rfl 30 #[Value.int IntKind.i64 0, Value.int IntKind.i64 0, Value.int IntKind.i64 0] (w2new.2) (by kernel_rfl) rfl (ev_one _) ?_
          have s6 : Blk (W2.setRow (G + 1) (evV (f i))) (G + 1) 30 (evV (f i)) := setRow_heap _ _ #[Value.int IntKind.i64 0, Value.int IntKind.i64 0, Value.int IntKind.i64 0] _ _ _ (w2new.2)
          have s7 : (W2.setRow (G + 1) (evV (f i))).heap[G]? = some (.cells #[Value.int IntKind.i64 0, Value.int IntKind.i64 0, Value.int IntKind.i64 0] 30 (0, 0)) := (setRow_other _ _ _ _ (by omega)).trans (w2new.1)
          have B3 : Below w.heap.size w (W2.setRow (G + 1) (evV (f i))) := below_setRow B2 (by omega) _
          generalize W2.setRow (G + 1) (evV (f i)) = W3 at *
          refine hK.out _ _ B3 (fun hHeld2 => ?_)
          clear hK K hHeld2
          (try simp only [Act.put, List.setIfInBounds_toArray, List.set_cons_zero, List.set_cons_succ])
          refine wpAnyH_ready (rs := [17]) (by kernel_rfl) (by simp) ?_
          refine reg_each (o := _) rfl (fun K hK => ?_) ?_
          · skip
            rw [if_pos (by rfl)]
            refine wp_store_row 30 _ _ rfl (G) (evV (f k)) rfl rfl 30 #[Value.int IntKind.i64 0, Value.int IntKind.i64 0, Value.int IntKind.i64 0] s7 (by kernel_rfl) rfl (ev_one _) ?_
            have t7 : Blk (W3.setRow (G) (evV (f k))) (G) 30 (evV (f k)) := setRow_heap _ _ #[Value.int IntKind.i64 0, Value.int IntKind.i64 0, Value.int IntKind.i64 0] _ _ _ s7
            have t6 : Blk (W3.setRow (G) (evV (f k))) (G + 1) 30 (evV (f i)) := (setRow_other _ _ _ _ (by omega)).trans s6
            have B4 : Below w.heap.size w (W3.setRow (G) (evV (f k))) := below_setRow B3 (by omega) _
            generalize W3.setRow (G) (evV (f k)) = W4 at *
            refine hK.out _ _ B4 (fun hHeld2 => ?_)
            clear hK K hHeld2
            (try simp only [Act.put, List.setIfInBounds_toArray, List.set_cons_zero, List.set_cons_succ])
            refine wpAnyH_done (by kernel_rfl) ?_ _
            refine NoPanic.normal ?_
            go_wp2_with (fail)
            go_meet
            exact ⟨G + 1, G, rfl, rfl, t6, t7, by omega, B4⟩
          exact AllReadyH.nil
        exact AllReadyH.nil
      exact AllReadyH.nil
    exact AllReadyH.nil
  case rest =>
    obtain ⟨b6, b7, rfl, rfl, t6, t7, n6, B4⟩ := hcut
    have h1 := H.out.below B4
    have F1 : QFr w wc q r g := QFr.of_below B4
    clear c1 x0 x1 x2 y0 y1 y2 zq zg B4 H
    unfold Blk at t6 t7
    have T6 := Lib.hid t6
    have T7 := Lib.hid t7
    clear t6 t7
    go_wp2_with (first | refine wpList_load_row rfl 30 _ rfl b7 rfl 30 (evV (f k)) (0, 0) _ T7.out Tryd.underlying30 rfl (by kernel_rfl) ?_)
    refine (HP1.out _ h1).mono ?_
    rintro e w2 ⟨rfl, h2, F2⟩
    have T6' := Lib.hid ((F2.block b6 (Blk.lt (t := 30) (cs := evV (f i)) T6.out) n6.1 n6.2.1 n6.2.2).trans T6.out)
    clear T6 T7 h1 HP1
    go_wp2_with (first | refine wpList_load_row rfl 30 _ rfl b6 rfl 30 (evV (f i)) (0, 0) _ T6'.out Tryd.underlying30 rfl (by kernel_rfl) ?_)
    refine (HP2.out _ h2).mono ?_
    rintro e w3 ⟨rfl, h3, F3⟩
    go_wp2
    exact bodyPost_end (results_none rfl _ _ _) rfl ⟨rfl, h3, (F1.trans F2).trans F3⟩
end Go.Proofs.YtfbbkeekpkbjhaaDoor
