/- The document's Set. -/
import Derived.Test.YtfbbkeekpkbjhaaDoorD4
namespace Go.Proofs.YtfbbkeekpkbjhaaDoor
open Go.RowKit
/-- An event laid at its place among others. -/
def InsAt (L : List Ev) (e : Ev) (M : List Ev) : Prop := ∃ k, k ≤ L.length ∧ (∀ j, j < k → ltE (L.getD j ⟨0, 0, 0⟩) e) ∧ (k < L.length → ¬ ltE (L.getD k ⟨0, 0, 0⟩) e) ∧ M = L.take k ++ e :: L.drop k
theorem RdE.one {w : World} {q : Nat} {e : Ev} (h : Blk w q 43 #[.int .i64 e.t, .int .i64 e.k, .int .i64 e.d]) : RdE w (.slice (some ⟨q, 0, none⟩) 1 1) [e] :=
  .inr ⟨q, 0, 1, rfl, Nat.le_refl _, h.lt, fun i hi => by
    obtain rfl : i = 0 := by simpa using hi
    exact ⟨by rw [h.cell]; rfl, by rw [h.cell]; rfl, by rw [h.cell]; rfl⟩⟩
theorem owns_mono {w : World} {B C n : Nat} {t : TypeId} {v : Value} {xs : List Value} (h : w.ownsRow B t 3 v n xs) (k : C ≤ B) : w.ownsRow C t 3 v n xs := by
  refine ⟨h.1, h.2.imp id ?_⟩
  rintro ⟨g, cap, cur, e, hB, r⟩
  exact ⟨g, cap, cur, e, Nat.le_trans k hB, r⟩
def InsSaid (L : List Ev) (e : Ev) (w : World) (x : Ending) (w' : World) : Prop :=
  ∃ v' N, x = .returned (.tuple #[v', .int .i64 0]) ∧ ∃ M, InsAt L e M ∧ w'.ownsRow w.heap.size 43 3 v' N (cellsE M) ∧ Below w.heap.size w w'
set_option maxRecDepth 100000 in
set_option maxHeartbeats 4000000 in
theorem refset_new (v : Value) (LL : List Ev) (room : Int) (e : Ev) (w : World) (h : RdE w v LL) (hl : LL.length ≤ 65536) (t0 : 0 ≤ e.t) (t1 : e.t ≤ 4611686018427387904) (k0 : 0 ≤ e.k) (d0 : 0 ≤ e.d) (hr : (LL.length : Int) < room) (hno : ∀ x ∈ LL, ¬ KD x e.k e.d) :
    Calls Tryd.prog 13 #[v, .int .i64 room, .agg (evV e)] w (InsSaid LL e w) := by
  have BX := below_al (Below.refl w.heap.size w) (.cells (evV e) 43)
  have FD := Lib.hid (reffind_walk v LL e.k e.d (w.alloc (.cells (evV e) 43)) (h.below BX) hl)
  have HX := Lib.hid (Blk.new w 43 (evV e))
  have h1 := h.below BX
  have n1 : decide (e.t < 0) = false := decide_eq_false (by omega)
  have n2 : decide (4611686018427387904 < e.t) = false := decide_eq_false (by omega)
  have n3 : decide (e.k < 0) = false := decide_eq_false (by omega)
  have n4 : decide (e.d < 0) = false := decide_eq_false (by omega)
  have HW := Lib.hid BX
  have HNO := Lib.hid hno
  rcases h1 with ⟨rfl, hL⟩ | ⟨g, o, cap, rfl, hc, hg, hh⟩
  · have HN0 := Lib.hid (show LL.length = 0 by rw [hL]; rfl)
    have lz : (LL.length : Int) = 0 := by have := HN0.out; omega
    rw [lz] at hr
    clear h hL BX hno lz
    unfold evV at *
    go_enter Tryd.func13, Tryd.ntmps13
    go_wp2_with (fail)
    refine FD.out.mono ?_
    rintro x w1 ⟨rfl, r, rfl, hr2⟩
    obtain rfl : r = -1 := by
      rcases hr2 with ⟨e1, _⟩ | ⟨i, hi, _⟩
      · exact e1
      · have := HN0.out; omega
    generalize hp : w.heap.size = p at *
    generalize hW : w.alloc (Obj.cells #[Value.int IntKind.i64 e.t, Value.int IntKind.i64 e.k, Value.int IntKind.i64 e.d] 43) = W at *
    have HP := Lib.hid hp
    clear FD n1 n2 n3 n4 hr2 hW hp
    go_upto_region 9 with (fail)
    go_loopw [9] (fun iv wr => ∃ k : Nat, iv = .int .i64 k ∧ k ≤ LL.length ∧ Below W.heap.size W wr ∧ ∀ j, j < k → ltE (LL.getD j ⟨0, 0, 0⟩) e) (fun iv _ => LL.length - (intOf iv).toNat)
    case atStart => exact ⟨0, rfl, Nat.zero_le _, Below.refl _ _, fun j hj => by omega⟩
    case round =>
      obtain ⟨k, rfl, hk, bel, hlt⟩ := hrel
      have k0 : (0 : Int) ≤ k := by omega
      go_upto_region 9 with (fail)
      obtain rfl : k = 0 := by have := HN0.out; omega
      have bel0 := Lib.hid bel
      clear bel hlt
      refine wp_region_noPanic ?_
      refine wp_region_held_drew (S := (fun w' => Below wr.heap.size wr w')) (by kernel_rfl) ?_ (fun hHeld => ?_)
      · exact below_drewN (Below.refl _ _) 1
      refine reg_take (i := 0) (oi := _) (v := ?_) rfl (by kernel_rfl) (by kernel_rfl) (by kernel_rfl) (fun _ _ _ h => h) (by rfl) ?_ (by assumption) ?_
      rotate_left
      · intro w hSw; (try dsimp only at hSw); go_simp; try with_reducible rfl
      (try simp only [Act.put, List.setIfInBounds_toArray, List.set_cons_zero, List.set_cons_succ])
      refine reg_take (i := 1) (oi := _) (v := ?_) rfl (by kernel_rfl) (by kernel_rfl) (by kernel_rfl) (fun _ _ _ h => h) (by rfl) ?_ (by assumption) ?_
      rotate_left
      · intro w hSw; (try dsimp only at hSw); go_simp; try with_reducible rfl
      (try simp only [Act.put, List.setIfInBounds_toArray, List.set_cons_zero, List.set_cons_succ])
      refine reg_take (i := 2) (oi := _) (v := ?_) rfl (by kernel_rfl) (by kernel_rfl) (by kernel_rfl) (fun _ _ _ h => h) (by rfl) ?_ (by assumption) ?_
      rotate_left
      · intro w hSw; (try dsimp only at hSw); go_simp; try with_reducible rfl
      (try simp only [Act.put, List.setIfInBounds_toArray, List.set_cons_zero, List.set_cons_succ])
      refine reg_take (i := 3) (oi := _) (v := ?_) rfl (by kernel_rfl) (by kernel_rfl) (by kernel_rfl) (fun _ _ _ h => h) (by rfl) ?_ (by assumption) ?_
      rotate_left
      · intro w hSw; (try dsimp only at hSw); go_simp; try with_reducible rfl
      (try simp only [Act.put, List.setIfInBounds_toArray, List.set_cons_zero, List.set_cons_succ])
      refine reg_take (i := 4) (oi := _) (v := ?_) rfl (by kernel_rfl) (by kernel_rfl) (by kernel_rfl) (fun _ _ _ h => h) (by rfl) ?_ (by assumption) ?_
      rotate_left
      · intro w hSw; (try dsimp only at hSw); go_simp; try with_reducible rfl
      (try simp only [Act.put, List.setIfInBounds_toArray, List.set_cons_zero, List.set_cons_succ])
      refine reg_skip (i := 5) (oi := _) rfl (by kernel_rfl) (by kernel_rfl) (by kernel_rfl) (fun _ _ _ h => h) (by rfl) (by assumption) ?_
      (try simp only [Act.put, List.setIfInBounds_toArray, List.set_cons_zero, List.set_cons_succ])
      refine reg_skip (i := 6) (oi := _) rfl (by kernel_rfl) (by kernel_rfl) (by kernel_rfl) (fun _ _ _ h => h) (by rfl) (by assumption) ?_
      (try simp only [Act.put, List.setIfInBounds_toArray, List.set_cons_zero, List.set_cons_succ])
      refine reg_skip (i := 7) (oi := _) rfl (by kernel_rfl) (by kernel_rfl) (by kernel_rfl) (fun _ _ _ h => h) (by rfl) (by assumption) ?_
      (try simp only [Act.put, List.setIfInBounds_toArray, List.set_cons_zero, List.set_cons_succ])
      refine reg_skip (i := 8) (oi := _) rfl (by kernel_rfl) (by kernel_rfl) (by kernel_rfl) (fun _ _ _ h => h) (by rfl) (by assumption) ?_
      (try simp only [Act.put, List.setIfInBounds_toArray, List.set_cons_zero, List.set_cons_succ])
      refine reg_skip (i := 9) (oi := _) rfl (by kernel_rfl) (by kernel_rfl) (by kernel_rfl) (fun _ _ _ h => h) (by rfl) (by assumption) ?_
      (try simp only [Act.put, List.setIfInBounds_toArray, List.set_cons_zero, List.set_cons_succ])
      refine reg_skip (i := 10) (oi := _) rfl (by kernel_rfl) (by kernel_rfl) (by kernel_rfl) (fun _ _ _ h => h) (by rfl) (by assumption) ?_
      (try simp only [Act.put, List.setIfInBounds_toArray, List.set_cons_zero, List.set_cons_succ])
      refine reg_take (i := 11) (oi := _) (v := ?_) rfl (by kernel_rfl) (by kernel_rfl) (by kernel_rfl) (fun _ _ _ h => h) (by rfl) ?_ (by assumption) ?_
      rotate_left
      · intro w hSw; (try dsimp only at hSw); go_simp; try with_reducible rfl
      (try simp only [Act.put, List.setIfInBounds_toArray, List.set_cons_zero, List.set_cons_succ])
      refine wpAnyH_done (by kernel_rfl) ?_ _
      refine NoPanic.normal ?_
      have BA := bel0.out.trans (hHeld.mono bel0.out.size)
      have hn := HN0.out
      obtain ⟨WA, hWA⟩ : ∃ Z : World, Z = wr.drew := ⟨_, rfl⟩
      rw [← hWA] at BA
      go_upto_region 12 with (fail)
      rw [← hWA]
      have XA := HX.out.below BA
      have zp := XA.lt
      have X0 : WA.cell? ⟨p, 0, none⟩ = some (.int .i64 e.t) := by rw [XA.cell]; rfl
      have X1 : WA.cell? ⟨p, 1, none⟩ = some (.int .i64 e.k) := by rw [XA.cell]; rfl
      have X2 : WA.cell? ⟨p, 2, none⟩ = some (.int .i64 e.d) := by rw [XA.cell]; rfl
      have WHY := Lib.hid (show InsAt LL e ([] ++ [e] ++ []) from ⟨0, Nat.zero_le _, fun j hj => by omega, fun h => by have := HN0.out; omega, by rw [List.eq_nil_of_length_eq_zero HN0.out]; rfl⟩)
      have BAH := Lib.hid BA
      have HN := Lib.hid hn
      have HT := Lib.hid (show RdE WA (.slice none 0 0) [] from .inl ⟨rfl, rfl⟩)
      have HD := HT
      clear XA BA hWA
      refine wp_region_noPanic ?_
      refine wp_region_held_drew (S := (fun w' => Below WA.heap.size WA w')) (by kernel_rfl) ?_ (fun hHeld => ?_)
      · exact below_drewN (Below.refl _ _) 1
      refine reg_take (i := 0) (oi := _) (v := ?_) rfl (by kernel_rfl) (by kernel_rfl) (by kernel_rfl) (fun _ _ _ h => h) (by rfl) ?_ (by assumption) ?_
      rotate_left
      · intro w hSw; (try dsimp only at hSw); replace X0 := bel_cell hSw X0; replace X1 := bel_cell hSw X1; replace X2 := bel_cell hSw X2; replace zp := Nat.lt_of_lt_of_le zp hSw.size; go_simp; try with_reducible rfl
      (try simp only [Act.put, List.setIfInBounds_toArray, List.set_cons_zero, List.set_cons_succ])
      refine reg_take (i := 1) (oi := _) (v := ?_) rfl (by kernel_rfl) (by kernel_rfl) (by kernel_rfl) (fun _ _ _ h => h) (by rfl) ?_ (by assumption) ?_
      rotate_left
      · intro w hSw; (try dsimp only at hSw); replace X0 := bel_cell hSw X0; replace X1 := bel_cell hSw X1; replace X2 := bel_cell hSw X2; replace zp := Nat.lt_of_lt_of_le zp hSw.size; go_simp; try with_reducible rfl
      (try simp only [Act.put, List.setIfInBounds_toArray, List.set_cons_zero, List.set_cons_succ])
      refine reg_take (i := 2) (oi := _) (v := ?_) rfl (by kernel_rfl) (by kernel_rfl) (by kernel_rfl) (fun _ _ _ h => h) (by rfl) ?_ (by assumption) ?_
      rotate_left
      · intro w hSw; (try dsimp only at hSw); replace X0 := bel_cell hSw X0; replace X1 := bel_cell hSw X1; replace X2 := bel_cell hSw X2; replace zp := Nat.lt_of_lt_of_le zp hSw.size; go_simp; try with_reducible rfl
      (try simp only [Act.put, List.setIfInBounds_toArray, List.set_cons_zero, List.set_cons_succ])
      refine reg_take (i := 3) (oi := _) (v := ?_) rfl (by kernel_rfl) (by kernel_rfl) (by kernel_rfl) (fun _ _ _ h => h) (by rfl) ?_ (by assumption) ?_
      rotate_left
      · intro w hSw; (try dsimp only at hSw); replace X0 := bel_cell hSw X0; replace X1 := bel_cell hSw X1; replace X2 := bel_cell hSw X2; replace zp := Nat.lt_of_lt_of_le zp hSw.size; go_simp; try with_reducible rfl
      (try simp only [Act.put, List.setIfInBounds_toArray, List.set_cons_zero, List.set_cons_succ])
      refine reg_take (i := 5) (oi := _) (v := ?_) rfl (by kernel_rfl) (by kernel_rfl) (by kernel_rfl) (fun _ _ _ h => h) (by rfl) ?_ (by assumption) ?_
      rotate_left
      · intro w hSw; (try dsimp only at hSw); replace X0 := bel_cell hSw X0; replace X1 := bel_cell hSw X1; replace X2 := bel_cell hSw X2; replace zp := Nat.lt_of_lt_of_le zp hSw.size; go_simp; try with_reducible rfl
      (try simp only [Act.put, List.setIfInBounds_toArray, List.set_cons_zero, List.set_cons_succ])
      refine reg_take (i := 8) (oi := _) (v := ?_) rfl (by kernel_rfl) (by kernel_rfl) (by kernel_rfl) (fun _ _ _ h => h) (by rfl) ?_ (by assumption) ?_
      rotate_left
      · intro w hSw; (try dsimp only at hSw); replace X0 := bel_cell hSw X0; replace X1 := bel_cell hSw X1; replace X2 := bel_cell hSw X2; replace zp := Nat.lt_of_lt_of_le zp hSw.size; go_simp; try with_reducible rfl
      (try simp only [Act.put, List.setIfInBounds_toArray, List.set_cons_zero, List.set_cons_succ])
      refine reg_take (i := 9) (oi := _) (v := ?_) rfl (by kernel_rfl) (by kernel_rfl) (by kernel_rfl) (fun _ _ _ h => h) (by rfl) ?_ (by assumption) ?_
      rotate_left
      · intro w hSw; (try dsimp only at hSw); replace X0 := bel_cell hSw X0; replace X1 := bel_cell hSw X1; replace X2 := bel_cell hSw X2; replace zp := Nat.lt_of_lt_of_le zp hSw.size; go_simp; try with_reducible rfl
      (try simp only [Act.put, List.setIfInBounds_toArray, List.set_cons_zero, List.set_cons_succ])
      refine reg_take (i := 10) (oi := _) (v := ?_) rfl (by kernel_rfl) (by kernel_rfl) (by kernel_rfl) (fun _ _ _ h => h) (by rfl) ?_ (by assumption) ?_
      rotate_left
      · intro w hSw; (try dsimp only at hSw); replace X0 := bel_cell hSw X0; replace X1 := bel_cell hSw X1; replace X2 := bel_cell hSw X2; replace zp := Nat.lt_of_lt_of_le zp hSw.size; go_simp; try with_reducible rfl
      (try simp only [Act.put, List.setIfInBounds_toArray, List.set_cons_zero, List.set_cons_succ])
      refine wpAnyH_ready (rs := [4, 6]) (by kernel_rfl) (by simp) ?_
      refine reg_each (o := _) rfl (fun K hK => ?_) ?_
      · skip
        refine step_append_e rfl _ _ (by rfl) WA.heap.size (.slice none 0 0) (.slice none 0 0) [] [] (by rfl) (by first | rfl | go_simp) (World.ownsRow_nil _ _ _ _) (HT.out.below hHeld) (by have := HN.out; first | omega | (simp; done) | (simp; omega)) hHeld.size ?_
        intro v1 W1 own1 gr1 at1
        rw [List.nil_append] at own1
        refine hK.out _ _ ?_ (fun hHeld2 => ?_)
        · exact below_grown' hHeld gr1 (fun k e => by simp [Value.ownBlock] at e) hHeld.size
        clear hK K hHeld
        have hHeld := hHeld2
        clear hHeld2
        (try simp only [Act.put, List.setIfInBounds_toArray, List.set_cons_zero, List.set_cons_succ])
        refine wpAnyH_ready (rs := [6]) (by kernel_rfl) (by simp) ?_
        refine reg_each (o := _) rfl (fun K hK => ?_) ?_
        · skip
          go_simp
          refine hK.out _ _ ?_ (fun hHeld2 => ?_)
          · exact below_al hHeld _
          clear hK K hHeld
          have hHeld := hHeld2
          clear hHeld2
          (try simp only [Act.put, List.setIfInBounds_toArray, List.set_cons_zero, List.set_cons_succ])
          refine wpAnyH_ready (rs := [7]) (by kernel_rfl) (by simp) ?_
          refine reg_each (o := _) rfl (fun K hK => ?_) ?_
          · skip
            refine step_append_e rfl _ _ (by rfl) WA.heap.size v1 (.slice (some ⟨W1.heap.size, 0, none⟩) 1 1) [] [e] (by rfl) (by first | rfl | go_simp) (own1.alloc _) (RdE.one (Blk.new W1 43 _)) (by have := HN.out; first | omega | (simp; done) | (simp; omega)) hHeld.size ?_
            intro v3 W3 own3 gr3 at3
            refine hK.out _ _ ?_ (fun hHeld2 => ?_)
            · exact below_grown' hHeld gr3 (fun k e => (own1.lt k e).1) hHeld.size
            clear hK K hHeld
            have hHeld := hHeld2
            clear hHeld2
            (try simp only [Act.put, List.setIfInBounds_toArray, List.set_cons_zero, List.set_cons_succ])
            refine wpAnyH_ready (rs := [11]) (by kernel_rfl) (by simp) ?_
            refine reg_each (o := _) rfl (fun K hK => ?_) ?_
            · skip
              refine step_append_e rfl _ _ (by rfl) WA.heap.size v3 (.slice none 0 0) ([] ++ [e]) [] (by rfl) (by first | rfl | go_simp) own3 (HD.out.below hHeld) (by have := HN.out; first | omega | (simp; done) | (simp; omega)) hHeld.size ?_
              intro v4 W4 own4 gr4 at4
              refine hK.out _ _ ?_ (fun hHeld2 => ?_)
              · exact below_grown' hHeld gr4 (fun k e => (own3.lt k e).1) hHeld.size
              clear hK K hHeld
              have hHeld := hHeld2
              clear hHeld2
              (try simp only [Act.put, List.setIfInBounds_toArray, List.set_cons_zero, List.set_cons_succ])
              have O4 := Lib.hid own4
              have B4 := Lib.hid hHeld
              clear own1 own3 own4 gr1 gr3 gr4 at1 at3 at4
              refine reg_take (i := 12) (oi := _) (v := ?_) rfl (by kernel_rfl) (by kernel_rfl) (by kernel_rfl) (fun _ _ _ h => h) (by rfl) ?_ (by assumption) ?_
              rotate_left
              · intro w hSw; (try dsimp only at hSw); replace X0 := bel_cell hSw X0; replace X1 := bel_cell hSw X1; replace X2 := bel_cell hSw X2; replace zp := Nat.lt_of_lt_of_le zp hSw.size; go_simp; try with_reducible rfl
              (try simp only [Act.put, List.setIfInBounds_toArray, List.set_cons_zero, List.set_cons_succ])
              refine reg_take (i := 13) (oi := _) (v := ?_) rfl (by kernel_rfl) (by kernel_rfl) (by kernel_rfl) (fun _ _ _ h => h) (by rfl) ?_ (by assumption) ?_
              rotate_left
              · intro w hSw; (try dsimp only at hSw); replace X0 := bel_cell hSw X0; replace X1 := bel_cell hSw X1; replace X2 := bel_cell hSw X2; replace zp := Nat.lt_of_lt_of_le zp hSw.size; go_simp; try with_reducible rfl
              (try simp only [Act.put, List.setIfInBounds_toArray, List.set_cons_zero, List.set_cons_succ])
              refine wpAnyH_done (by kernel_rfl) ?_ _
              refine NoPanic.normal ?_
              go_wp2_with (fail)
              go_ret2
              have hpW : p ≤ W.heap.size := by have h1 := HW.out.size; have h2 := HP.out; omega
              unfold InsSaid
              first | exact ⟨v4, _, rfl, _, WHY.out, owns_mono O4.out (Nat.le_trans hpW BAH.out.size), HW.out.trans ((BAH.out.trans (B4.out.mono BAH.out.size)).mono hpW)⟩ | (rw [HP.out]; exact ⟨v4, _, rfl, _, WHY.out, owns_mono O4.out (Nat.le_trans hpW BAH.out.size), HW.out.trans ((BAH.out.trans (B4.out.mono BAH.out.size)).mono hpW)⟩)
            exact AllReadyH.nil
          exact AllReadyH.nil
        exact AllReadyH.nil
      refine reg_each (o := _) rfl (fun K hK => ?_) ?_
      · skip
        go_simp
        refine hK.out _ _ ?_ (fun hHeld2 => ?_)
        · exact below_al hHeld _
        clear hK K hHeld
        have hHeld := hHeld2
        clear hHeld2
        (try simp only [Act.put, List.setIfInBounds_toArray, List.set_cons_zero, List.set_cons_succ])
        refine wpAnyH_ready (rs := [4]) (by kernel_rfl) (by simp) ?_
        refine reg_each (o := _) rfl (fun K hK => ?_) ?_
        · skip
          refine step_append_e rfl _ _ (by rfl) WA.heap.size (.slice none 0 0) (.slice none 0 0) [] [] (by rfl) (by first | rfl | go_simp) (World.ownsRow_nil _ _ _ _) (HT.out.below hHeld) (by have := HN.out; first | omega | (simp; done) | (simp; omega)) hHeld.size ?_
          intro v1 W1 own1 gr1 at1
          rw [List.nil_append] at own1
          refine hK.out _ _ ?_ (fun hHeld2 => ?_)
          · exact below_grown' hHeld gr1 (fun k e => by simp [Value.ownBlock] at e) hHeld.size
          clear hK K hHeld
          have hHeld := hHeld2
          clear hHeld2
          (try simp only [Act.put, List.setIfInBounds_toArray, List.set_cons_zero, List.set_cons_succ])
          refine wpAnyH_ready (rs := [7]) (by kernel_rfl) (by simp) ?_
          refine reg_each (o := _) rfl (fun K hK => ?_) ?_
          · skip
            refine step_append_e rfl _ _ (by rfl) WA.heap.size v1 (.slice (some ⟨WA.heap.size, 0, none⟩) 1 1) [] [e] (by rfl) (by first | rfl | go_simp) own1 (RdE.one ((gr1.block _ (by simp) (by simp [Value.ownBlock])).trans (Blk.new WA.drew 43 _))) (by have := HN.out; first | omega | (simp; done) | (simp; omega)) hHeld.size ?_
            intro v3 W3 own3 gr3 at3
            refine hK.out _ _ ?_ (fun hHeld2 => ?_)
            · exact below_grown' hHeld gr3 (fun k e => (own1.lt k e).1) hHeld.size
            clear hK K hHeld
            have hHeld := hHeld2
            clear hHeld2
            (try simp only [Act.put, List.setIfInBounds_toArray, List.set_cons_zero, List.set_cons_succ])
            refine wpAnyH_ready (rs := [11]) (by kernel_rfl) (by simp) ?_
            refine reg_each (o := _) rfl (fun K hK => ?_) ?_
            · skip
              refine step_append_e rfl _ _ (by rfl) WA.heap.size v3 (.slice none 0 0) ([] ++ [e]) [] (by rfl) (by first | rfl | go_simp) own3 (HD.out.below hHeld) (by have := HN.out; first | omega | (simp; done) | (simp; omega)) hHeld.size ?_
              intro v4 W4 own4 gr4 at4
              refine hK.out _ _ ?_ (fun hHeld2 => ?_)
              · exact below_grown' hHeld gr4 (fun k e => (own3.lt k e).1) hHeld.size
              clear hK K hHeld
              have hHeld := hHeld2
              clear hHeld2
              (try simp only [Act.put, List.setIfInBounds_toArray, List.set_cons_zero, List.set_cons_succ])
              have O4 := Lib.hid own4
              have B4 := Lib.hid hHeld
              clear own1 own3 own4 gr1 gr3 gr4 at1 at3 at4
              refine reg_take (i := 12) (oi := _) (v := ?_) rfl (by kernel_rfl) (by kernel_rfl) (by kernel_rfl) (fun _ _ _ h => h) (by rfl) ?_ (by assumption) ?_
              rotate_left
              · intro w hSw; (try dsimp only at hSw); replace X0 := bel_cell hSw X0; replace X1 := bel_cell hSw X1; replace X2 := bel_cell hSw X2; replace zp := Nat.lt_of_lt_of_le zp hSw.size; go_simp; try with_reducible rfl
              (try simp only [Act.put, List.setIfInBounds_toArray, List.set_cons_zero, List.set_cons_succ])
              refine reg_take (i := 13) (oi := _) (v := ?_) rfl (by kernel_rfl) (by kernel_rfl) (by kernel_rfl) (fun _ _ _ h => h) (by rfl) ?_ (by assumption) ?_
              rotate_left
              · intro w hSw; (try dsimp only at hSw); replace X0 := bel_cell hSw X0; replace X1 := bel_cell hSw X1; replace X2 := bel_cell hSw X2; replace zp := Nat.lt_of_lt_of_le zp hSw.size; go_simp; try with_reducible rfl
              (try simp only [Act.put, List.setIfInBounds_toArray, List.set_cons_zero, List.set_cons_succ])
              refine wpAnyH_done (by kernel_rfl) ?_ _
              refine NoPanic.normal ?_
              go_wp2_with (fail)
              go_ret2
              have hpW : p ≤ W.heap.size := by have h1 := HW.out.size; have h2 := HP.out; omega
              unfold InsSaid
              first | exact ⟨v4, _, rfl, _, WHY.out, owns_mono O4.out (Nat.le_trans hpW BAH.out.size), HW.out.trans ((BAH.out.trans (B4.out.mono BAH.out.size)).mono hpW)⟩ | (rw [HP.out]; exact ⟨v4, _, rfl, _, WHY.out, owns_mono O4.out (Nat.le_trans hpW BAH.out.size), HW.out.trans ((BAH.out.trans (B4.out.mono BAH.out.size)).mono hpW)⟩)
            exact AllReadyH.nil
          exact AllReadyH.nil
        exact AllReadyH.nil
      exact AllReadyH.nil
  · have HN0 := Lib.hid hl
    have HC := Lib.hid hc
    have HG := Lib.hid hg
    have HH := Lib.hid hh
    have HR := Lib.hid (show RdE (w.alloc (.cells (evV e) 43)) (.slice (some ⟨g, o, none⟩) LL.length cap) LL from .inr ⟨g, o, cap, rfl, hc, hg, hh⟩)
    clear h BX hno hh
    unfold evV at *
    go_enter Tryd.func13, Tryd.ntmps13
    go_wp2_with (fail)
    refine FD.out.mono ?_
    rintro x w1 ⟨rfl, r, rfl, hr2⟩
    obtain rfl : r = -1 := by
      rcases hr2 with ⟨e1, _⟩ | ⟨i, hi, _, hk⟩
      · exact e1
      · refine absurd hk (HNO.out _ ?_)
        rw [List.getD_eq_getElem?_getD, List.getElem?_eq_getElem hi]; exact List.getElem_mem _
    generalize hp : w.heap.size = p at *
    generalize hW : w.alloc (Obj.cells #[Value.int IntKind.i64 e.t, Value.int IntKind.i64 e.k, Value.int IntKind.i64 e.d] 43) = W at *
    have HP := Lib.hid hp
    clear FD n1 n2 n3 n4 hr2 hW hp
    go_upto_region 9 with (fail)
    go_loopw [9] (fun iv wr => ∃ k : Nat, iv = .int .i64 k ∧ k ≤ LL.length ∧ Below W.heap.size W wr ∧ ∀ j, j < k → ltE (LL.getD j ⟨0, 0, 0⟩) e) (fun iv _ => LL.length - (intOf iv).toNat)
    case atStart => exact ⟨0, rfl, Nat.zero_le _, Below.refl _ _, fun j hj => by omega⟩
    case round =>
      obtain ⟨k, rfl, hk, bel, hlt⟩ := hrel
      have k0 : (0 : Int) ≤ k := by omega
      go_upto_region 9 with (fail)
      by_cases hkl : k < LL.length
      · have hkl' : (k : Int) < (LL.length : Int) := by omega
        obtain ⟨c0, c1, c2⟩ := HH.out k hkl
        have hx2 := HX.out.below bel
        have hE : ∃ E, LL.getD k ⟨0, 0, 0⟩ = E := ⟨_, rfl⟩
        obtain ⟨E, hE⟩ := hE
        rw [hE] at c0 c1 c2
        replace c0 := (bel.cell (p := ⟨g, o + k * 3, none⟩) HG.out).trans c0
        replace c1 := (bel.cell (p := ⟨g, o + k * 3 + 1, none⟩) HG.out).trans c1
        replace c2 := (bel.cell (p := ⟨g, o + k * 3 + 2, none⟩) HG.out).trans c2
        have x0 : wr.cell? ⟨p, 0, none⟩ = some (.int .i64 e.t) := by rw [hx2.cell]; rfl
        have x1 : wr.cell? ⟨p, 1, none⟩ = some (.int .i64 e.k) := by rw [hx2.cell]; rfl
        have x2 : wr.cell? ⟨p, 2, none⟩ = some (.int .i64 e.d) := by rw [hx2.cell]; rfl
        have zq := hx2.lt
        have zg : g < wr.heap.size := Nat.lt_of_lt_of_le HG.out bel.size
        have AH := Lib.hid (fun W' => ahead_walk E e W')
        unfold evV at AH
        have bel0 := Lib.hid bel
        have HLT := Lib.hid hlt
        have hEE := Lib.hid hE
        clear bel hlt hx2 hE
        by_cases hlt2 : ltE E e
        · have hd : decide (ltE E e) = true := decide_eq_true hlt2
          rw [hd] at AH
          have HL2 := Lib.hid hlt2
          clear hd hlt2
          refine wp_region_noPanic ?_
          refine wp_region_held_drew (S := (fun w' => Below wr.heap.size wr w')) (by kernel_rfl) ?_ (fun hHeld => ?_)
          · exact below_drewN (Below.refl _ _) 1
          refine reg_take (i := 0) (oi := _) (v := ?_) rfl (by kernel_rfl) (by kernel_rfl) (by kernel_rfl) (fun _ _ _ h => h) (by rfl) ?_ (by assumption) ?_
          rotate_left
          · intro w hSw; (try dsimp only at hSw); replace x0 := bel_cell hSw x0; replace x1 := bel_cell hSw x1; replace x2 := bel_cell hSw x2; replace c0 := bel_cell hSw c0; replace c1 := bel_cell hSw c1; replace c2 := bel_cell hSw c2; replace zq := Nat.lt_of_lt_of_le zq hSw.size; replace zg := Nat.lt_of_lt_of_le zg hSw.size; go_simp; try with_reducible rfl
          (try simp only [Act.put, List.setIfInBounds_toArray, List.set_cons_zero, List.set_cons_succ])
          refine reg_take (i := 1) (oi := _) (v := ?_) rfl (by kernel_rfl) (by kernel_rfl) (by kernel_rfl) (fun _ _ _ h => h) (by rfl) ?_ (by assumption) ?_
          rotate_left
          · intro w hSw; (try dsimp only at hSw); replace x0 := bel_cell hSw x0; replace x1 := bel_cell hSw x1; replace x2 := bel_cell hSw x2; replace c0 := bel_cell hSw c0; replace c1 := bel_cell hSw c1; replace c2 := bel_cell hSw c2; replace zq := Nat.lt_of_lt_of_le zq hSw.size; replace zg := Nat.lt_of_lt_of_le zg hSw.size; go_simp; try with_reducible rfl
          (try simp only [Act.put, List.setIfInBounds_toArray, List.set_cons_zero, List.set_cons_succ])
          refine reg_take (i := 2) (oi := _) (v := ?_) rfl (by kernel_rfl) (by kernel_rfl) (by kernel_rfl) (fun _ _ _ h => h) (by rfl) ?_ (by assumption) ?_
          rotate_left
          · intro w hSw; (try dsimp only at hSw); replace x0 := bel_cell hSw x0; replace x1 := bel_cell hSw x1; replace x2 := bel_cell hSw x2; replace c0 := bel_cell hSw c0; replace c1 := bel_cell hSw c1; replace c2 := bel_cell hSw c2; replace zq := Nat.lt_of_lt_of_le zq hSw.size; replace zg := Nat.lt_of_lt_of_le zg hSw.size; go_simp; try with_reducible rfl
          (try simp only [Act.put, List.setIfInBounds_toArray, List.set_cons_zero, List.set_cons_succ])
          refine reg_take (i := 3) (oi := _) (v := ?_) rfl (by kernel_rfl) (by kernel_rfl) (by kernel_rfl) (fun _ _ _ h => h) (by rfl) ?_ (by assumption) ?_
          rotate_left
          · intro w hSw; (try dsimp only at hSw); replace x0 := bel_cell hSw x0; replace x1 := bel_cell hSw x1; replace x2 := bel_cell hSw x2; replace c0 := bel_cell hSw c0; replace c1 := bel_cell hSw c1; replace c2 := bel_cell hSw c2; replace zq := Nat.lt_of_lt_of_le zq hSw.size; replace zg := Nat.lt_of_lt_of_le zg hSw.size; go_simp; try with_reducible rfl
          (try simp only [Act.put, List.setIfInBounds_toArray, List.set_cons_zero, List.set_cons_succ])
          refine reg_take (i := 4) (oi := _) (v := ?_) rfl (by kernel_rfl) (by kernel_rfl) (by kernel_rfl) (fun _ _ _ h => h) (by rfl) ?_ (by assumption) ?_
          rotate_left
          · intro w hSw; (try dsimp only at hSw); replace x0 := bel_cell hSw x0; replace x1 := bel_cell hSw x1; replace x2 := bel_cell hSw x2; replace c0 := bel_cell hSw c0; replace c1 := bel_cell hSw c1; replace c2 := bel_cell hSw c2; replace zq := Nat.lt_of_lt_of_le zq hSw.size; replace zg := Nat.lt_of_lt_of_le zg hSw.size; go_simp; try with_reducible rfl
          (try simp only [Act.put, List.setIfInBounds_toArray, List.set_cons_zero, List.set_cons_succ])
          refine reg_take (i := 5) (oi := _) (v := ?_) rfl (by kernel_rfl) (by kernel_rfl) (by kernel_rfl) (fun _ _ _ h => h) (by rfl) ?_ (by assumption) ?_
          rotate_left
          · intro w hSw; (try dsimp only at hSw); replace x0 := bel_cell hSw x0; replace x1 := bel_cell hSw x1; replace x2 := bel_cell hSw x2; replace c0 := bel_cell hSw c0; replace c1 := bel_cell hSw c1; replace c2 := bel_cell hSw c2; replace zq := Nat.lt_of_lt_of_le zq hSw.size; replace zg := Nat.lt_of_lt_of_le zg hSw.size; go_simp; try with_reducible rfl
          (try simp only [Act.put, List.setIfInBounds_toArray, List.set_cons_zero, List.set_cons_succ])
          refine reg_take (i := 6) (oi := _) (v := ?_) rfl (by kernel_rfl) (by kernel_rfl) (by kernel_rfl) (fun _ _ _ h => h) (by rfl) ?_ (by assumption) ?_
          rotate_left
          · intro w hSw; (try dsimp only at hSw); replace x0 := bel_cell hSw x0; replace x1 := bel_cell hSw x1; replace x2 := bel_cell hSw x2; replace c0 := bel_cell hSw c0; replace c1 := bel_cell hSw c1; replace c2 := bel_cell hSw c2; replace zq := Nat.lt_of_lt_of_le zq hSw.size; replace zg := Nat.lt_of_lt_of_le zg hSw.size; go_simp; try with_reducible rfl
          (try simp only [Act.put, List.setIfInBounds_toArray, List.set_cons_zero, List.set_cons_succ])
          refine reg_take (i := 7) (oi := _) (v := ?_) rfl (by kernel_rfl) (by kernel_rfl) (by kernel_rfl) (fun _ _ _ h => h) (by rfl) ?_ (by assumption) ?_
          rotate_left
          · intro w hSw; (try dsimp only at hSw); replace x0 := bel_cell hSw x0; replace x1 := bel_cell hSw x1; replace x2 := bel_cell hSw x2; replace c0 := bel_cell hSw c0; replace c1 := bel_cell hSw c1; replace c2 := bel_cell hSw c2; replace zq := Nat.lt_of_lt_of_le zq hSw.size; replace zg := Nat.lt_of_lt_of_le zg hSw.size; go_simp; try with_reducible rfl
          (try simp only [Act.put, List.setIfInBounds_toArray, List.set_cons_zero, List.set_cons_succ])
          refine reg_take (i := 8) (oi := _) (v := ?_) rfl (by kernel_rfl) (by kernel_rfl) (by kernel_rfl) (fun _ _ _ h => h) (by rfl) ?_ (by assumption) ?_
          rotate_left
          · intro w hSw; (try dsimp only at hSw); replace x0 := bel_cell hSw x0; replace x1 := bel_cell hSw x1; replace x2 := bel_cell hSw x2; replace c0 := bel_cell hSw c0; replace c1 := bel_cell hSw c1; replace c2 := bel_cell hSw c2; replace zq := Nat.lt_of_lt_of_le zq hSw.size; replace zg := Nat.lt_of_lt_of_le zg hSw.size; go_simp; try with_reducible rfl
          (try simp only [Act.put, List.setIfInBounds_toArray, List.set_cons_zero, List.set_cons_succ])
          refine reg_take (i := 9) (oi := _) (v := ?_) rfl (by kernel_rfl) (by kernel_rfl) (by kernel_rfl) (fun _ _ _ h => h) (by rfl) ?_ (by assumption) ?_
          rotate_left
          · intro w hSw; (try dsimp only at hSw); replace x0 := bel_cell hSw x0; replace x1 := bel_cell hSw x1; replace x2 := bel_cell hSw x2; replace c0 := bel_cell hSw c0; replace c1 := bel_cell hSw c1; replace c2 := bel_cell hSw c2; replace zq := Nat.lt_of_lt_of_le zq hSw.size; replace zg := Nat.lt_of_lt_of_le zg hSw.size; go_simp; try with_reducible rfl
          (try simp only [Act.put, List.setIfInBounds_toArray, List.set_cons_zero, List.set_cons_succ])
          refine wpAnyH_ready (rs := [10]) (by kernel_rfl) (by simp) ?_
          refine reg_each (o := _) rfl (fun K hK => ?_) ?_
          · skip
            go_simp
            refine (AH.out _).mono ?_
            rintro x w2 ⟨rfl, hb⟩
            go_wp2_with (fail)
            refine hK.out _ _ ?_ (fun hHeld2 => ?_)
            · exact below_trans hHeld hb
            clear hK K hHeld
            have hHeld := hHeld2
            clear hHeld2
            (try simp only [Act.put, List.setIfInBounds_toArray, List.set_cons_zero, List.set_cons_succ])
            refine reg_take (i := 11) (oi := _) (v := ?_) rfl (by kernel_rfl) (by kernel_rfl) (by kernel_rfl) (fun _ _ _ h => h) (by rfl) ?_ (by assumption) ?_
            rotate_left
            · intro w hSw; (try dsimp only at hSw); replace x0 := bel_cell hSw x0; replace x1 := bel_cell hSw x1; replace x2 := bel_cell hSw x2; replace c0 := bel_cell hSw c0; replace c1 := bel_cell hSw c1; replace c2 := bel_cell hSw c2; replace zq := Nat.lt_of_lt_of_le zq hSw.size; replace zg := Nat.lt_of_lt_of_le zg hSw.size; go_simp; try with_reducible rfl
            (try simp only [Act.put, List.setIfInBounds_toArray, List.set_cons_zero, List.set_cons_succ])
            refine wpAnyH_done (by kernel_rfl) ?_ _
            refine NoPanic.normal ?_
            have BA := Lib.hid (bel0.out.trans (hHeld.mono bel0.out.size))
            clear hHeld
            go_wp2_with (fail)
            go_roundw
            case rel =>
              refine ⟨k + 1, by go_num, by omega, BA.out, fun j hj => ?_⟩
              by_cases hjk : j = k
              · subst hjk; rw [hEE.out]; exact HL2.out
              · exact HLT.out j (by omega)
            case measure => simp [intOf]; omega
          exact AllReadyH.nil
        · have hd : decide (ltE E e) = false := decide_eq_false hlt2
          rw [hd] at AH
          have HL2 := Lib.hid hlt2
          clear hd hlt2
          refine wp_region_noPanic ?_
          refine wp_region_held_drew (S := (fun w' => Below wr.heap.size wr w')) (by kernel_rfl) ?_ (fun hHeld => ?_)
          · exact below_drewN (Below.refl _ _) 1
          refine reg_take (i := 0) (oi := _) (v := ?_) rfl (by kernel_rfl) (by kernel_rfl) (by kernel_rfl) (fun _ _ _ h => h) (by rfl) ?_ (by assumption) ?_
          rotate_left
          · intro w hSw; (try dsimp only at hSw); replace x0 := bel_cell hSw x0; replace x1 := bel_cell hSw x1; replace x2 := bel_cell hSw x2; replace c0 := bel_cell hSw c0; replace c1 := bel_cell hSw c1; replace c2 := bel_cell hSw c2; replace zq := Nat.lt_of_lt_of_le zq hSw.size; replace zg := Nat.lt_of_lt_of_le zg hSw.size; go_simp; try with_reducible rfl
          (try simp only [Act.put, List.setIfInBounds_toArray, List.set_cons_zero, List.set_cons_succ])
          refine reg_take (i := 1) (oi := _) (v := ?_) rfl (by kernel_rfl) (by kernel_rfl) (by kernel_rfl) (fun _ _ _ h => h) (by rfl) ?_ (by assumption) ?_
          rotate_left
          · intro w hSw; (try dsimp only at hSw); replace x0 := bel_cell hSw x0; replace x1 := bel_cell hSw x1; replace x2 := bel_cell hSw x2; replace c0 := bel_cell hSw c0; replace c1 := bel_cell hSw c1; replace c2 := bel_cell hSw c2; replace zq := Nat.lt_of_lt_of_le zq hSw.size; replace zg := Nat.lt_of_lt_of_le zg hSw.size; go_simp; try with_reducible rfl
          (try simp only [Act.put, List.setIfInBounds_toArray, List.set_cons_zero, List.set_cons_succ])
          refine reg_take (i := 2) (oi := _) (v := ?_) rfl (by kernel_rfl) (by kernel_rfl) (by kernel_rfl) (fun _ _ _ h => h) (by rfl) ?_ (by assumption) ?_
          rotate_left
          · intro w hSw; (try dsimp only at hSw); replace x0 := bel_cell hSw x0; replace x1 := bel_cell hSw x1; replace x2 := bel_cell hSw x2; replace c0 := bel_cell hSw c0; replace c1 := bel_cell hSw c1; replace c2 := bel_cell hSw c2; replace zq := Nat.lt_of_lt_of_le zq hSw.size; replace zg := Nat.lt_of_lt_of_le zg hSw.size; go_simp; try with_reducible rfl
          (try simp only [Act.put, List.setIfInBounds_toArray, List.set_cons_zero, List.set_cons_succ])
          refine reg_take (i := 3) (oi := _) (v := ?_) rfl (by kernel_rfl) (by kernel_rfl) (by kernel_rfl) (fun _ _ _ h => h) (by rfl) ?_ (by assumption) ?_
          rotate_left
          · intro w hSw; (try dsimp only at hSw); replace x0 := bel_cell hSw x0; replace x1 := bel_cell hSw x1; replace x2 := bel_cell hSw x2; replace c0 := bel_cell hSw c0; replace c1 := bel_cell hSw c1; replace c2 := bel_cell hSw c2; replace zq := Nat.lt_of_lt_of_le zq hSw.size; replace zg := Nat.lt_of_lt_of_le zg hSw.size; go_simp; try with_reducible rfl
          (try simp only [Act.put, List.setIfInBounds_toArray, List.set_cons_zero, List.set_cons_succ])
          refine reg_take (i := 4) (oi := _) (v := ?_) rfl (by kernel_rfl) (by kernel_rfl) (by kernel_rfl) (fun _ _ _ h => h) (by rfl) ?_ (by assumption) ?_
          rotate_left
          · intro w hSw; (try dsimp only at hSw); replace x0 := bel_cell hSw x0; replace x1 := bel_cell hSw x1; replace x2 := bel_cell hSw x2; replace c0 := bel_cell hSw c0; replace c1 := bel_cell hSw c1; replace c2 := bel_cell hSw c2; replace zq := Nat.lt_of_lt_of_le zq hSw.size; replace zg := Nat.lt_of_lt_of_le zg hSw.size; go_simp; try with_reducible rfl
          (try simp only [Act.put, List.setIfInBounds_toArray, List.set_cons_zero, List.set_cons_succ])
          refine reg_take (i := 5) (oi := _) (v := ?_) rfl (by kernel_rfl) (by kernel_rfl) (by kernel_rfl) (fun _ _ _ h => h) (by rfl) ?_ (by assumption) ?_
          rotate_left
          · intro w hSw; (try dsimp only at hSw); replace x0 := bel_cell hSw x0; replace x1 := bel_cell hSw x1; replace x2 := bel_cell hSw x2; replace c0 := bel_cell hSw c0; replace c1 := bel_cell hSw c1; replace c2 := bel_cell hSw c2; replace zq := Nat.lt_of_lt_of_le zq hSw.size; replace zg := Nat.lt_of_lt_of_le zg hSw.size; go_simp; try with_reducible rfl
          (try simp only [Act.put, List.setIfInBounds_toArray, List.set_cons_zero, List.set_cons_succ])
          refine reg_take (i := 6) (oi := _) (v := ?_) rfl (by kernel_rfl) (by kernel_rfl) (by kernel_rfl) (fun _ _ _ h => h) (by rfl) ?_ (by assumption) ?_
          rotate_left
          · intro w hSw; (try dsimp only at hSw); replace x0 := bel_cell hSw x0; replace x1 := bel_cell hSw x1; replace x2 := bel_cell hSw x2; replace c0 := bel_cell hSw c0; replace c1 := bel_cell hSw c1; replace c2 := bel_cell hSw c2; replace zq := Nat.lt_of_lt_of_le zq hSw.size; replace zg := Nat.lt_of_lt_of_le zg hSw.size; go_simp; try with_reducible rfl
          (try simp only [Act.put, List.setIfInBounds_toArray, List.set_cons_zero, List.set_cons_succ])
          refine reg_take (i := 7) (oi := _) (v := ?_) rfl (by kernel_rfl) (by kernel_rfl) (by kernel_rfl) (fun _ _ _ h => h) (by rfl) ?_ (by assumption) ?_
          rotate_left
          · intro w hSw; (try dsimp only at hSw); replace x0 := bel_cell hSw x0; replace x1 := bel_cell hSw x1; replace x2 := bel_cell hSw x2; replace c0 := bel_cell hSw c0; replace c1 := bel_cell hSw c1; replace c2 := bel_cell hSw c2; replace zq := Nat.lt_of_lt_of_le zq hSw.size; replace zg := Nat.lt_of_lt_of_le zg hSw.size; go_simp; try with_reducible rfl
          (try simp only [Act.put, List.setIfInBounds_toArray, List.set_cons_zero, List.set_cons_succ])
          refine reg_take (i := 8) (oi := _) (v := ?_) rfl (by kernel_rfl) (by kernel_rfl) (by kernel_rfl) (fun _ _ _ h => h) (by rfl) ?_ (by assumption) ?_
          rotate_left
          · intro w hSw; (try dsimp only at hSw); replace x0 := bel_cell hSw x0; replace x1 := bel_cell hSw x1; replace x2 := bel_cell hSw x2; replace c0 := bel_cell hSw c0; replace c1 := bel_cell hSw c1; replace c2 := bel_cell hSw c2; replace zq := Nat.lt_of_lt_of_le zq hSw.size; replace zg := Nat.lt_of_lt_of_le zg hSw.size; go_simp; try with_reducible rfl
          (try simp only [Act.put, List.setIfInBounds_toArray, List.set_cons_zero, List.set_cons_succ])
          refine reg_take (i := 9) (oi := _) (v := ?_) rfl (by kernel_rfl) (by kernel_rfl) (by kernel_rfl) (fun _ _ _ h => h) (by rfl) ?_ (by assumption) ?_
          rotate_left
          · intro w hSw; (try dsimp only at hSw); replace x0 := bel_cell hSw x0; replace x1 := bel_cell hSw x1; replace x2 := bel_cell hSw x2; replace c0 := bel_cell hSw c0; replace c1 := bel_cell hSw c1; replace c2 := bel_cell hSw c2; replace zq := Nat.lt_of_lt_of_le zq hSw.size; replace zg := Nat.lt_of_lt_of_le zg hSw.size; go_simp; try with_reducible rfl
          (try simp only [Act.put, List.setIfInBounds_toArray, List.set_cons_zero, List.set_cons_succ])
          refine wpAnyH_ready (rs := [10]) (by kernel_rfl) (by simp) ?_
          refine reg_each (o := _) rfl (fun K hK => ?_) ?_
          · skip
            go_simp
            refine (AH.out _).mono ?_
            rintro x w2 ⟨rfl, hb⟩
            go_wp2_with (fail)
            refine hK.out _ _ ?_ (fun hHeld2 => ?_)
            · exact below_trans hHeld hb
            clear hK K hHeld
            have hHeld := hHeld2
            clear hHeld2
            (try simp only [Act.put, List.setIfInBounds_toArray, List.set_cons_zero, List.set_cons_succ])
            refine reg_take (i := 11) (oi := _) (v := ?_) rfl (by kernel_rfl) (by kernel_rfl) (by kernel_rfl) (fun _ _ _ h => h) (by rfl) ?_ (by assumption) ?_
            rotate_left
            · intro w hSw; (try dsimp only at hSw); replace x0 := bel_cell hSw x0; replace x1 := bel_cell hSw x1; replace x2 := bel_cell hSw x2; replace c0 := bel_cell hSw c0; replace c1 := bel_cell hSw c1; replace c2 := bel_cell hSw c2; replace zq := Nat.lt_of_lt_of_le zq hSw.size; replace zg := Nat.lt_of_lt_of_le zg hSw.size; go_simp; try with_reducible rfl
            (try simp only [Act.put, List.setIfInBounds_toArray, List.set_cons_zero, List.set_cons_succ])
            refine wpAnyH_done (by kernel_rfl) ?_ _
            refine NoPanic.normal ?_
            have BA := bel0.out.trans (hHeld.mono bel0.out.size)
            have hn := HN0.out
            clear hHeld x0 x1 x2 c0 c1 c2 zq
            obtain ⟨WA, hWA⟩ : ∃ Z : World, Z = w2 := ⟨_, rfl⟩
            rw [← hWA] at BA
            go_upto_region 12 with (fail)
            rw [← hWA]
            have XA := HX.out.below BA
            have zp := XA.lt
            have X0 : WA.cell? ⟨p, 0, none⟩ = some (.int .i64 e.t) := by rw [XA.cell]; rfl
            have X1 : WA.cell? ⟨p, 1, none⟩ = some (.int .i64 e.k) := by rw [XA.cell]; rfl
            have X2 : WA.cell? ⟨p, 2, none⟩ = some (.int .i64 e.d) := by rw [XA.cell]; rfl
            have WHY := Lib.hid (show InsAt LL e (LL.take k ++ [e] ++ LL.drop k) from ⟨k, hk, HLT.out, fun _ => by rw [hEE.out]; exact HL2.out, by simp⟩)
            have BAH := Lib.hid BA
            have HN := Lib.hid hn
            have HT := Lib.hid ((HR.out.below BA).take hk)
            have HD := Lib.hid ((HR.out.below BA).drop' hk)
            have i1 : (k : Int) ≤ (cap : Int) := by have := HC.out; omega
            clear XA BA hWA
            refine wp_region_noPanic ?_
            refine wp_region_held_drew (S := (fun w' => Below WA.heap.size WA w')) (by kernel_rfl) ?_ (fun hHeld => ?_)
            · exact below_drewN (Below.refl _ _) 1
            refine reg_take (i := 0) (oi := _) (v := ?_) rfl (by kernel_rfl) (by kernel_rfl) (by kernel_rfl) (fun _ _ _ h => h) (by rfl) ?_ (by assumption) ?_
            rotate_left
            · intro w hSw; (try dsimp only at hSw); replace X0 := bel_cell hSw X0; replace X1 := bel_cell hSw X1; replace X2 := bel_cell hSw X2; replace zp := Nat.lt_of_lt_of_le zp hSw.size; go_simp; try with_reducible rfl
            (try simp only [Act.put, List.setIfInBounds_toArray, List.set_cons_zero, List.set_cons_succ])
            refine reg_take (i := 1) (oi := _) (v := ?_) rfl (by kernel_rfl) (by kernel_rfl) (by kernel_rfl) (fun _ _ _ h => h) (by rfl) ?_ (by assumption) ?_
            rotate_left
            · intro w hSw; (try dsimp only at hSw); replace X0 := bel_cell hSw X0; replace X1 := bel_cell hSw X1; replace X2 := bel_cell hSw X2; replace zp := Nat.lt_of_lt_of_le zp hSw.size; go_simp; try with_reducible rfl
            (try simp only [Act.put, List.setIfInBounds_toArray, List.set_cons_zero, List.set_cons_succ])
            refine reg_take (i := 2) (oi := _) (v := ?_) rfl (by kernel_rfl) (by kernel_rfl) (by kernel_rfl) (fun _ _ _ h => h) (by rfl) ?_ (by assumption) ?_
            rotate_left
            · intro w hSw; (try dsimp only at hSw); replace X0 := bel_cell hSw X0; replace X1 := bel_cell hSw X1; replace X2 := bel_cell hSw X2; replace zp := Nat.lt_of_lt_of_le zp hSw.size; go_simp; try with_reducible rfl
            (try simp only [Act.put, List.setIfInBounds_toArray, List.set_cons_zero, List.set_cons_succ])
            refine reg_take (i := 3) (oi := _) (v := ?_) rfl (by kernel_rfl) (by kernel_rfl) (by kernel_rfl) (fun _ _ _ h => h) (by rfl) ?_ (by assumption) ?_
            rotate_left
            · intro w hSw; (try dsimp only at hSw); replace X0 := bel_cell hSw X0; replace X1 := bel_cell hSw X1; replace X2 := bel_cell hSw X2; replace zp := Nat.lt_of_lt_of_le zp hSw.size; go_simp; try with_reducible rfl
            (try simp only [Act.put, List.setIfInBounds_toArray, List.set_cons_zero, List.set_cons_succ])
            refine reg_take (i := 5) (oi := _) (v := ?_) rfl (by kernel_rfl) (by kernel_rfl) (by kernel_rfl) (fun _ _ _ h => h) (by rfl) ?_ (by assumption) ?_
            rotate_left
            · intro w hSw; (try dsimp only at hSw); replace X0 := bel_cell hSw X0; replace X1 := bel_cell hSw X1; replace X2 := bel_cell hSw X2; replace zp := Nat.lt_of_lt_of_le zp hSw.size; go_simp; try with_reducible rfl
            (try simp only [Act.put, List.setIfInBounds_toArray, List.set_cons_zero, List.set_cons_succ])
            refine reg_take (i := 8) (oi := _) (v := ?_) rfl (by kernel_rfl) (by kernel_rfl) (by kernel_rfl) (fun _ _ _ h => h) (by rfl) ?_ (by assumption) ?_
            rotate_left
            · intro w hSw; (try dsimp only at hSw); replace X0 := bel_cell hSw X0; replace X1 := bel_cell hSw X1; replace X2 := bel_cell hSw X2; replace zp := Nat.lt_of_lt_of_le zp hSw.size; go_simp; try with_reducible rfl
            (try simp only [Act.put, List.setIfInBounds_toArray, List.set_cons_zero, List.set_cons_succ])
            refine reg_take (i := 9) (oi := _) (v := ?_) rfl (by kernel_rfl) (by kernel_rfl) (by kernel_rfl) (fun _ _ _ h => h) (by rfl) ?_ (by assumption) ?_
            rotate_left
            · intro w hSw; (try dsimp only at hSw); replace X0 := bel_cell hSw X0; replace X1 := bel_cell hSw X1; replace X2 := bel_cell hSw X2; replace zp := Nat.lt_of_lt_of_le zp hSw.size; go_simp; try with_reducible rfl
            (try simp only [Act.put, List.setIfInBounds_toArray, List.set_cons_zero, List.set_cons_succ])
            refine reg_take (i := 10) (oi := _) (v := ?_) rfl (by kernel_rfl) (by kernel_rfl) (by kernel_rfl) (fun _ _ _ h => h) (by rfl) ?_ (by assumption) ?_
            rotate_left
            · intro w hSw; (try dsimp only at hSw); replace X0 := bel_cell hSw X0; replace X1 := bel_cell hSw X1; replace X2 := bel_cell hSw X2; replace zp := Nat.lt_of_lt_of_le zp hSw.size; go_simp; try with_reducible rfl
            (try simp only [Act.put, List.setIfInBounds_toArray, List.set_cons_zero, List.set_cons_succ])
            refine wpAnyH_ready (rs := [4, 6]) (by kernel_rfl) (by simp) ?_
            refine reg_each (o := _) rfl (fun K hK => ?_) ?_
            · skip
              refine step_append_e rfl _ _ (by rfl) WA.heap.size (.slice none 0 0) (.slice (some ⟨g, o, none⟩) k cap) [] (LL.take k) (by rfl) (by first | rfl | go_simp) (World.ownsRow_nil _ _ _ _) (HT.out.below hHeld) (by have := HN.out; first | omega | (simp; done) | (simp; omega)) hHeld.size ?_
              intro v1 W1 own1 gr1 at1
              rw [List.nil_append] at own1
              refine hK.out _ _ ?_ (fun hHeld2 => ?_)
              · exact below_grown' hHeld gr1 (fun k e => by simp [Value.ownBlock] at e) hHeld.size
              clear hK K hHeld
              have hHeld := hHeld2
              clear hHeld2
              (try simp only [Act.put, List.setIfInBounds_toArray, List.set_cons_zero, List.set_cons_succ])
              refine wpAnyH_ready (rs := [6]) (by kernel_rfl) (by simp) ?_
              refine reg_each (o := _) rfl (fun K hK => ?_) ?_
              · skip
                go_simp
                refine hK.out _ _ ?_ (fun hHeld2 => ?_)
                · exact below_al hHeld _
                clear hK K hHeld
                have hHeld := hHeld2
                clear hHeld2
                (try simp only [Act.put, List.setIfInBounds_toArray, List.set_cons_zero, List.set_cons_succ])
                refine wpAnyH_ready (rs := [7]) (by kernel_rfl) (by simp) ?_
                refine reg_each (o := _) rfl (fun K hK => ?_) ?_
                · skip
                  refine step_append_e rfl _ _ (by rfl) WA.heap.size v1 (.slice (some ⟨W1.heap.size, 0, none⟩) 1 1) (LL.take k) [e] (by rfl) (by first | rfl | go_simp) (own1.alloc _) (RdE.one (Blk.new W1 43 _)) (by have := HN.out; first | omega | (simp; done) | (simp; omega)) hHeld.size ?_
                  intro v3 W3 own3 gr3 at3
                  refine hK.out _ _ ?_ (fun hHeld2 => ?_)
                  · exact below_grown' hHeld gr3 (fun k e => (own1.lt k e).1) hHeld.size
                  clear hK K hHeld
                  have hHeld := hHeld2
                  clear hHeld2
                  (try simp only [Act.put, List.setIfInBounds_toArray, List.set_cons_zero, List.set_cons_succ])
                  refine wpAnyH_ready (rs := [11]) (by kernel_rfl) (by simp) ?_
                  refine reg_each (o := _) rfl (fun K hK => ?_) ?_
                  · skip
                    refine step_append_e rfl _ _ (by rfl) WA.heap.size v3 (.slice (if cap = k then some ⟨g, o, none⟩ else some ⟨g, o + k * 3, none⟩) (LL.length - k) (cap - k)) ((LL.take k) ++ [e]) (LL.drop k) (by rfl) (by first | rfl | go_simp) own3 (HD.out.below hHeld) (by have := HN.out; first | omega | (simp; done) | (simp; omega)) hHeld.size ?_
                    intro v4 W4 own4 gr4 at4
                    refine hK.out _ _ ?_ (fun hHeld2 => ?_)
                    · exact below_grown' hHeld gr4 (fun k e => (own3.lt k e).1) hHeld.size
                    clear hK K hHeld
                    have hHeld := hHeld2
                    clear hHeld2
                    (try simp only [Act.put, List.setIfInBounds_toArray, List.set_cons_zero, List.set_cons_succ])
                    have O4 := Lib.hid own4
                    have B4 := Lib.hid hHeld
                    clear own1 own3 own4 gr1 gr3 gr4 at1 at3 at4
                    refine reg_take (i := 12) (oi := _) (v := ?_) rfl (by kernel_rfl) (by kernel_rfl) (by kernel_rfl) (fun _ _ _ h => h) (by rfl) ?_ (by assumption) ?_
                    rotate_left
                    · intro w hSw; (try dsimp only at hSw); replace X0 := bel_cell hSw X0; replace X1 := bel_cell hSw X1; replace X2 := bel_cell hSw X2; replace zp := Nat.lt_of_lt_of_le zp hSw.size; go_simp; try with_reducible rfl
                    (try simp only [Act.put, List.setIfInBounds_toArray, List.set_cons_zero, List.set_cons_succ])
                    refine reg_take (i := 13) (oi := _) (v := ?_) rfl (by kernel_rfl) (by kernel_rfl) (by kernel_rfl) (fun _ _ _ h => h) (by rfl) ?_ (by assumption) ?_
                    rotate_left
                    · intro w hSw; (try dsimp only at hSw); replace X0 := bel_cell hSw X0; replace X1 := bel_cell hSw X1; replace X2 := bel_cell hSw X2; replace zp := Nat.lt_of_lt_of_le zp hSw.size; go_simp; try with_reducible rfl
                    (try simp only [Act.put, List.setIfInBounds_toArray, List.set_cons_zero, List.set_cons_succ])
                    refine wpAnyH_done (by kernel_rfl) ?_ _
                    refine NoPanic.normal ?_
                    generalize Value.slice (if cap = k then some ⟨g, o, none⟩ else some ⟨g, o + k * 3, none⟩) (LL.length - k) (cap - k) = uu
                    go_wp2_with (fail)
                    go_ret2
                    have hpW : p ≤ W.heap.size := by have h1 := HW.out.size; have h2 := HP.out; omega
                    unfold InsSaid
                    first | exact ⟨v4, _, rfl, _, WHY.out, owns_mono O4.out (Nat.le_trans hpW BAH.out.size), HW.out.trans ((BAH.out.trans (B4.out.mono BAH.out.size)).mono hpW)⟩ | (rw [HP.out]; exact ⟨v4, _, rfl, _, WHY.out, owns_mono O4.out (Nat.le_trans hpW BAH.out.size), HW.out.trans ((BAH.out.trans (B4.out.mono BAH.out.size)).mono hpW)⟩)
                  exact AllReadyH.nil
                exact AllReadyH.nil
              exact AllReadyH.nil
            refine reg_each (o := _) rfl (fun K hK => ?_) ?_
            · skip
              go_simp
              refine hK.out _ _ ?_ (fun hHeld2 => ?_)
              · exact below_al hHeld _
              clear hK K hHeld
              have hHeld := hHeld2
              clear hHeld2
              (try simp only [Act.put, List.setIfInBounds_toArray, List.set_cons_zero, List.set_cons_succ])
              refine wpAnyH_ready (rs := [4]) (by kernel_rfl) (by simp) ?_
              refine reg_each (o := _) rfl (fun K hK => ?_) ?_
              · skip
                refine step_append_e rfl _ _ (by rfl) WA.heap.size (.slice none 0 0) (.slice (some ⟨g, o, none⟩) k cap) [] (LL.take k) (by rfl) (by first | rfl | go_simp) (World.ownsRow_nil _ _ _ _) (HT.out.below hHeld) (by have := HN.out; first | omega | (simp; done) | (simp; omega)) hHeld.size ?_
                intro v1 W1 own1 gr1 at1
                rw [List.nil_append] at own1
                refine hK.out _ _ ?_ (fun hHeld2 => ?_)
                · exact below_grown' hHeld gr1 (fun k e => by simp [Value.ownBlock] at e) hHeld.size
                clear hK K hHeld
                have hHeld := hHeld2
                clear hHeld2
                (try simp only [Act.put, List.setIfInBounds_toArray, List.set_cons_zero, List.set_cons_succ])
                refine wpAnyH_ready (rs := [7]) (by kernel_rfl) (by simp) ?_
                refine reg_each (o := _) rfl (fun K hK => ?_) ?_
                · skip
                  refine step_append_e rfl _ _ (by rfl) WA.heap.size v1 (.slice (some ⟨WA.heap.size, 0, none⟩) 1 1) (LL.take k) [e] (by rfl) (by first | rfl | go_simp) own1 (RdE.one ((gr1.block _ (by simp) (by simp [Value.ownBlock])).trans (Blk.new WA.drew 43 _))) (by have := HN.out; first | omega | (simp; done) | (simp; omega)) hHeld.size ?_
                  intro v3 W3 own3 gr3 at3
                  refine hK.out _ _ ?_ (fun hHeld2 => ?_)
                  · exact below_grown' hHeld gr3 (fun k e => (own1.lt k e).1) hHeld.size
                  clear hK K hHeld
                  have hHeld := hHeld2
                  clear hHeld2
                  (try simp only [Act.put, List.setIfInBounds_toArray, List.set_cons_zero, List.set_cons_succ])
                  refine wpAnyH_ready (rs := [11]) (by kernel_rfl) (by simp) ?_
                  refine reg_each (o := _) rfl (fun K hK => ?_) ?_
                  · skip
                    refine step_append_e rfl _ _ (by rfl) WA.heap.size v3 (.slice (if cap = k then some ⟨g, o, none⟩ else some ⟨g, o + k * 3, none⟩) (LL.length - k) (cap - k)) ((LL.take k) ++ [e]) (LL.drop k) (by rfl) (by first | rfl | go_simp) own3 (HD.out.below hHeld) (by have := HN.out; first | omega | (simp; done) | (simp; omega)) hHeld.size ?_
                    intro v4 W4 own4 gr4 at4
                    refine hK.out _ _ ?_ (fun hHeld2 => ?_)
                    · exact below_grown' hHeld gr4 (fun k e => (own3.lt k e).1) hHeld.size
                    clear hK K hHeld
                    have hHeld := hHeld2
                    clear hHeld2
                    (try simp only [Act.put, List.setIfInBounds_toArray, List.set_cons_zero, List.set_cons_succ])
                    have O4 := Lib.hid own4
                    have B4 := Lib.hid hHeld
                    clear own1 own3 own4 gr1 gr3 gr4 at1 at3 at4
                    refine reg_take (i := 12) (oi := _) (v := ?_) rfl (by kernel_rfl) (by kernel_rfl) (by kernel_rfl) (fun _ _ _ h => h) (by rfl) ?_ (by assumption) ?_
                    rotate_left
                    · intro w hSw; (try dsimp only at hSw); replace X0 := bel_cell hSw X0; replace X1 := bel_cell hSw X1; replace X2 := bel_cell hSw X2; replace zp := Nat.lt_of_lt_of_le zp hSw.size; go_simp; try with_reducible rfl
                    (try simp only [Act.put, List.setIfInBounds_toArray, List.set_cons_zero, List.set_cons_succ])
                    refine reg_take (i := 13) (oi := _) (v := ?_) rfl (by kernel_rfl) (by kernel_rfl) (by kernel_rfl) (fun _ _ _ h => h) (by rfl) ?_ (by assumption) ?_
                    rotate_left
                    · intro w hSw; (try dsimp only at hSw); replace X0 := bel_cell hSw X0; replace X1 := bel_cell hSw X1; replace X2 := bel_cell hSw X2; replace zp := Nat.lt_of_lt_of_le zp hSw.size; go_simp; try with_reducible rfl
                    (try simp only [Act.put, List.setIfInBounds_toArray, List.set_cons_zero, List.set_cons_succ])
                    refine wpAnyH_done (by kernel_rfl) ?_ _
                    refine NoPanic.normal ?_
                    generalize Value.slice (if cap = k then some ⟨g, o, none⟩ else some ⟨g, o + k * 3, none⟩) (LL.length - k) (cap - k) = uu
                    go_wp2_with (fail)
                    go_ret2
                    have hpW : p ≤ W.heap.size := by have h1 := HW.out.size; have h2 := HP.out; omega
                    unfold InsSaid
                    first | exact ⟨v4, _, rfl, _, WHY.out, owns_mono O4.out (Nat.le_trans hpW BAH.out.size), HW.out.trans ((BAH.out.trans (B4.out.mono BAH.out.size)).mono hpW)⟩ | (rw [HP.out]; exact ⟨v4, _, rfl, _, WHY.out, owns_mono O4.out (Nat.le_trans hpW BAH.out.size), HW.out.trans ((BAH.out.trans (B4.out.mono BAH.out.size)).mono hpW)⟩)
                  exact AllReadyH.nil
                exact AllReadyH.nil
              exact AllReadyH.nil
            exact AllReadyH.nil
          exact AllReadyH.nil
      · have hkl' : ¬ (k : Int) < (LL.length : Int) := by omega
        have bel0 := Lib.hid bel
        have HLT := Lib.hid hlt
        clear bel hlt
        refine wp_region_noPanic ?_
        refine wp_region_held_drew (S := (fun w' => Below wr.heap.size wr w')) (by kernel_rfl) ?_ (fun hHeld => ?_)
        · exact below_drewN (Below.refl _ _) 1
        refine reg_take (i := 0) (oi := _) (v := ?_) rfl (by kernel_rfl) (by kernel_rfl) (by kernel_rfl) (fun _ _ _ h => h) (by rfl) ?_ (by assumption) ?_
        rotate_left
        · intro w hSw; (try dsimp only at hSw); go_simp; try with_reducible rfl
        (try simp only [Act.put, List.setIfInBounds_toArray, List.set_cons_zero, List.set_cons_succ])
        refine reg_take (i := 1) (oi := _) (v := ?_) rfl (by kernel_rfl) (by kernel_rfl) (by kernel_rfl) (fun _ _ _ h => h) (by rfl) ?_ (by assumption) ?_
        rotate_left
        · intro w hSw; (try dsimp only at hSw); go_simp; try with_reducible rfl
        (try simp only [Act.put, List.setIfInBounds_toArray, List.set_cons_zero, List.set_cons_succ])
        refine reg_take (i := 2) (oi := _) (v := ?_) rfl (by kernel_rfl) (by kernel_rfl) (by kernel_rfl) (fun _ _ _ h => h) (by rfl) ?_ (by assumption) ?_
        rotate_left
        · intro w hSw; (try dsimp only at hSw); go_simp; try with_reducible rfl
        (try simp only [Act.put, List.setIfInBounds_toArray, List.set_cons_zero, List.set_cons_succ])
        refine reg_take (i := 3) (oi := _) (v := ?_) rfl (by kernel_rfl) (by kernel_rfl) (by kernel_rfl) (fun _ _ _ h => h) (by rfl) ?_ (by assumption) ?_
        rotate_left
        · intro w hSw; (try dsimp only at hSw); go_simp; try with_reducible rfl
        (try simp only [Act.put, List.setIfInBounds_toArray, List.set_cons_zero, List.set_cons_succ])
        refine reg_take (i := 4) (oi := _) (v := ?_) rfl (by kernel_rfl) (by kernel_rfl) (by kernel_rfl) (fun _ _ _ h => h) (by rfl) ?_ (by assumption) ?_
        rotate_left
        · intro w hSw; (try dsimp only at hSw); go_simp; try with_reducible rfl
        (try simp only [Act.put, List.setIfInBounds_toArray, List.set_cons_zero, List.set_cons_succ])
        refine reg_skip (i := 5) (oi := _) rfl (by kernel_rfl) (by kernel_rfl) (by kernel_rfl) (fun _ _ _ h => h) (by rfl) (by assumption) ?_
        (try simp only [Act.put, List.setIfInBounds_toArray, List.set_cons_zero, List.set_cons_succ])
        refine reg_skip (i := 6) (oi := _) rfl (by kernel_rfl) (by kernel_rfl) (by kernel_rfl) (fun _ _ _ h => h) (by rfl) (by assumption) ?_
        (try simp only [Act.put, List.setIfInBounds_toArray, List.set_cons_zero, List.set_cons_succ])
        refine reg_skip (i := 7) (oi := _) rfl (by kernel_rfl) (by kernel_rfl) (by kernel_rfl) (fun _ _ _ h => h) (by rfl) (by assumption) ?_
        (try simp only [Act.put, List.setIfInBounds_toArray, List.set_cons_zero, List.set_cons_succ])
        refine reg_skip (i := 8) (oi := _) rfl (by kernel_rfl) (by kernel_rfl) (by kernel_rfl) (fun _ _ _ h => h) (by rfl) (by assumption) ?_
        (try simp only [Act.put, List.setIfInBounds_toArray, List.set_cons_zero, List.set_cons_succ])
        refine reg_skip (i := 9) (oi := _) rfl (by kernel_rfl) (by kernel_rfl) (by kernel_rfl) (fun _ _ _ h => h) (by rfl) (by assumption) ?_
        (try simp only [Act.put, List.setIfInBounds_toArray, List.set_cons_zero, List.set_cons_succ])
        refine reg_skip (i := 10) (oi := _) rfl (by kernel_rfl) (by kernel_rfl) (by kernel_rfl) (fun _ _ _ h => h) (by rfl) (by assumption) ?_
        (try simp only [Act.put, List.setIfInBounds_toArray, List.set_cons_zero, List.set_cons_succ])
        refine reg_take (i := 11) (oi := _) (v := ?_) rfl (by kernel_rfl) (by kernel_rfl) (by kernel_rfl) (fun _ _ _ h => h) (by rfl) ?_ (by assumption) ?_
        rotate_left
        · intro w hSw; (try dsimp only at hSw); go_simp; try with_reducible rfl
        (try simp only [Act.put, List.setIfInBounds_toArray, List.set_cons_zero, List.set_cons_succ])
        refine wpAnyH_done (by kernel_rfl) ?_ _
        refine NoPanic.normal ?_
        have BA := bel0.out.trans (hHeld.mono bel0.out.size)
        have hn := HN0.out
        clear hHeld
        obtain ⟨WA, hWA⟩ : ∃ Z : World, Z = wr.drew := ⟨_, rfl⟩
        rw [← hWA] at BA
        go_upto_region 12 with (fail)
        rw [← hWA]
        have XA := HX.out.below BA
        have zp := XA.lt
        have X0 : WA.cell? ⟨p, 0, none⟩ = some (.int .i64 e.t) := by rw [XA.cell]; rfl
        have X1 : WA.cell? ⟨p, 1, none⟩ = some (.int .i64 e.k) := by rw [XA.cell]; rfl
        have X2 : WA.cell? ⟨p, 2, none⟩ = some (.int .i64 e.d) := by rw [XA.cell]; rfl
        have WHY := Lib.hid (show InsAt LL e (LL.take k ++ [e] ++ LL.drop k) from ⟨k, hk, HLT.out, fun h => absurd h hkl, by simp⟩)
        have BAH := Lib.hid BA
        have HN := Lib.hid hn
        have HT := Lib.hid ((HR.out.below BA).take hk)
        have HD := Lib.hid ((HR.out.below BA).drop' hk)
        have i1 : (k : Int) ≤ (cap : Int) := by have := HC.out; omega
        clear XA BA hWA
        refine wp_region_noPanic ?_
        refine wp_region_held_drew (S := (fun w' => Below WA.heap.size WA w')) (by kernel_rfl) ?_ (fun hHeld => ?_)
        · exact below_drewN (Below.refl _ _) 1
        refine reg_take (i := 0) (oi := _) (v := ?_) rfl (by kernel_rfl) (by kernel_rfl) (by kernel_rfl) (fun _ _ _ h => h) (by rfl) ?_ (by assumption) ?_
        rotate_left
        · intro w hSw; (try dsimp only at hSw); replace X0 := bel_cell hSw X0; replace X1 := bel_cell hSw X1; replace X2 := bel_cell hSw X2; replace zp := Nat.lt_of_lt_of_le zp hSw.size; go_simp; try with_reducible rfl
        (try simp only [Act.put, List.setIfInBounds_toArray, List.set_cons_zero, List.set_cons_succ])
        refine reg_take (i := 1) (oi := _) (v := ?_) rfl (by kernel_rfl) (by kernel_rfl) (by kernel_rfl) (fun _ _ _ h => h) (by rfl) ?_ (by assumption) ?_
        rotate_left
        · intro w hSw; (try dsimp only at hSw); replace X0 := bel_cell hSw X0; replace X1 := bel_cell hSw X1; replace X2 := bel_cell hSw X2; replace zp := Nat.lt_of_lt_of_le zp hSw.size; go_simp; try with_reducible rfl
        (try simp only [Act.put, List.setIfInBounds_toArray, List.set_cons_zero, List.set_cons_succ])
        refine reg_take (i := 2) (oi := _) (v := ?_) rfl (by kernel_rfl) (by kernel_rfl) (by kernel_rfl) (fun _ _ _ h => h) (by rfl) ?_ (by assumption) ?_
        rotate_left
        · intro w hSw; (try dsimp only at hSw); replace X0 := bel_cell hSw X0; replace X1 := bel_cell hSw X1; replace X2 := bel_cell hSw X2; replace zp := Nat.lt_of_lt_of_le zp hSw.size; go_simp; try with_reducible rfl
        (try simp only [Act.put, List.setIfInBounds_toArray, List.set_cons_zero, List.set_cons_succ])
        refine reg_take (i := 3) (oi := _) (v := ?_) rfl (by kernel_rfl) (by kernel_rfl) (by kernel_rfl) (fun _ _ _ h => h) (by rfl) ?_ (by assumption) ?_
        rotate_left
        · intro w hSw; (try dsimp only at hSw); replace X0 := bel_cell hSw X0; replace X1 := bel_cell hSw X1; replace X2 := bel_cell hSw X2; replace zp := Nat.lt_of_lt_of_le zp hSw.size; go_simp; try with_reducible rfl
        (try simp only [Act.put, List.setIfInBounds_toArray, List.set_cons_zero, List.set_cons_succ])
        refine reg_take (i := 5) (oi := _) (v := ?_) rfl (by kernel_rfl) (by kernel_rfl) (by kernel_rfl) (fun _ _ _ h => h) (by rfl) ?_ (by assumption) ?_
        rotate_left
        · intro w hSw; (try dsimp only at hSw); replace X0 := bel_cell hSw X0; replace X1 := bel_cell hSw X1; replace X2 := bel_cell hSw X2; replace zp := Nat.lt_of_lt_of_le zp hSw.size; go_simp; try with_reducible rfl
        (try simp only [Act.put, List.setIfInBounds_toArray, List.set_cons_zero, List.set_cons_succ])
        refine reg_take (i := 8) (oi := _) (v := ?_) rfl (by kernel_rfl) (by kernel_rfl) (by kernel_rfl) (fun _ _ _ h => h) (by rfl) ?_ (by assumption) ?_
        rotate_left
        · intro w hSw; (try dsimp only at hSw); replace X0 := bel_cell hSw X0; replace X1 := bel_cell hSw X1; replace X2 := bel_cell hSw X2; replace zp := Nat.lt_of_lt_of_le zp hSw.size; go_simp; try with_reducible rfl
        (try simp only [Act.put, List.setIfInBounds_toArray, List.set_cons_zero, List.set_cons_succ])
        refine reg_take (i := 9) (oi := _) (v := ?_) rfl (by kernel_rfl) (by kernel_rfl) (by kernel_rfl) (fun _ _ _ h => h) (by rfl) ?_ (by assumption) ?_
        rotate_left
        · intro w hSw; (try dsimp only at hSw); replace X0 := bel_cell hSw X0; replace X1 := bel_cell hSw X1; replace X2 := bel_cell hSw X2; replace zp := Nat.lt_of_lt_of_le zp hSw.size; go_simp; try with_reducible rfl
        (try simp only [Act.put, List.setIfInBounds_toArray, List.set_cons_zero, List.set_cons_succ])
        refine reg_take (i := 10) (oi := _) (v := ?_) rfl (by kernel_rfl) (by kernel_rfl) (by kernel_rfl) (fun _ _ _ h => h) (by rfl) ?_ (by assumption) ?_
        rotate_left
        · intro w hSw; (try dsimp only at hSw); replace X0 := bel_cell hSw X0; replace X1 := bel_cell hSw X1; replace X2 := bel_cell hSw X2; replace zp := Nat.lt_of_lt_of_le zp hSw.size; go_simp; try with_reducible rfl
        (try simp only [Act.put, List.setIfInBounds_toArray, List.set_cons_zero, List.set_cons_succ])
        refine wpAnyH_ready (rs := [4, 6]) (by kernel_rfl) (by simp) ?_
        refine reg_each (o := _) rfl (fun K hK => ?_) ?_
        · skip
          refine step_append_e rfl _ _ (by rfl) WA.heap.size (.slice none 0 0) (.slice (some ⟨g, o, none⟩) k cap) [] (LL.take k) (by rfl) (by first | rfl | go_simp) (World.ownsRow_nil _ _ _ _) (HT.out.below hHeld) (by have := HN.out; first | omega | (simp; done) | (simp; omega)) hHeld.size ?_
          intro v1 W1 own1 gr1 at1
          rw [List.nil_append] at own1
          refine hK.out _ _ ?_ (fun hHeld2 => ?_)
          · exact below_grown' hHeld gr1 (fun k e => by simp [Value.ownBlock] at e) hHeld.size
          clear hK K hHeld
          have hHeld := hHeld2
          clear hHeld2
          (try simp only [Act.put, List.setIfInBounds_toArray, List.set_cons_zero, List.set_cons_succ])
          refine wpAnyH_ready (rs := [6]) (by kernel_rfl) (by simp) ?_
          refine reg_each (o := _) rfl (fun K hK => ?_) ?_
          · skip
            go_simp
            refine hK.out _ _ ?_ (fun hHeld2 => ?_)
            · exact below_al hHeld _
            clear hK K hHeld
            have hHeld := hHeld2
            clear hHeld2
            (try simp only [Act.put, List.setIfInBounds_toArray, List.set_cons_zero, List.set_cons_succ])
            refine wpAnyH_ready (rs := [7]) (by kernel_rfl) (by simp) ?_
            refine reg_each (o := _) rfl (fun K hK => ?_) ?_
            · skip
              refine step_append_e rfl _ _ (by rfl) WA.heap.size v1 (.slice (some ⟨W1.heap.size, 0, none⟩) 1 1) (LL.take k) [e] (by rfl) (by first | rfl | go_simp) (own1.alloc _) (RdE.one (Blk.new W1 43 _)) (by have := HN.out; first | omega | (simp; done) | (simp; omega)) hHeld.size ?_
              intro v3 W3 own3 gr3 at3
              refine hK.out _ _ ?_ (fun hHeld2 => ?_)
              · exact below_grown' hHeld gr3 (fun k e => (own1.lt k e).1) hHeld.size
              clear hK K hHeld
              have hHeld := hHeld2
              clear hHeld2
              (try simp only [Act.put, List.setIfInBounds_toArray, List.set_cons_zero, List.set_cons_succ])
              refine wpAnyH_ready (rs := [11]) (by kernel_rfl) (by simp) ?_
              refine reg_each (o := _) rfl (fun K hK => ?_) ?_
              · skip
                refine step_append_e rfl _ _ (by rfl) WA.heap.size v3 (.slice (if cap = k then some ⟨g, o, none⟩ else some ⟨g, o + k * 3, none⟩) (LL.length - k) (cap - k)) ((LL.take k) ++ [e]) (LL.drop k) (by rfl) (by first | rfl | go_simp) own3 (HD.out.below hHeld) (by have := HN.out; first | omega | (simp; done) | (simp; omega)) hHeld.size ?_
                intro v4 W4 own4 gr4 at4
                refine hK.out _ _ ?_ (fun hHeld2 => ?_)
                · exact below_grown' hHeld gr4 (fun k e => (own3.lt k e).1) hHeld.size
                clear hK K hHeld
                have hHeld := hHeld2
                clear hHeld2
                (try simp only [Act.put, List.setIfInBounds_toArray, List.set_cons_zero, List.set_cons_succ])
                have O4 := Lib.hid own4
                have B4 := Lib.hid hHeld
                clear own1 own3 own4 gr1 gr3 gr4 at1 at3 at4
                refine reg_take (i := 12) (oi := _) (v := ?_) rfl (by kernel_rfl) (by kernel_rfl) (by kernel_rfl) (fun _ _ _ h => h) (by rfl) ?_ (by assumption) ?_
                rotate_left
                · intro w hSw; (try dsimp only at hSw); replace X0 := bel_cell hSw X0; replace X1 := bel_cell hSw X1; replace X2 := bel_cell hSw X2; replace zp := Nat.lt_of_lt_of_le zp hSw.size; go_simp; try with_reducible rfl
                (try simp only [Act.put, List.setIfInBounds_toArray, List.set_cons_zero, List.set_cons_succ])
                refine reg_take (i := 13) (oi := _) (v := ?_) rfl (by kernel_rfl) (by kernel_rfl) (by kernel_rfl) (fun _ _ _ h => h) (by rfl) ?_ (by assumption) ?_
                rotate_left
                · intro w hSw; (try dsimp only at hSw); replace X0 := bel_cell hSw X0; replace X1 := bel_cell hSw X1; replace X2 := bel_cell hSw X2; replace zp := Nat.lt_of_lt_of_le zp hSw.size; go_simp; try with_reducible rfl
                (try simp only [Act.put, List.setIfInBounds_toArray, List.set_cons_zero, List.set_cons_succ])
                refine wpAnyH_done (by kernel_rfl) ?_ _
                refine NoPanic.normal ?_
                generalize Value.slice (if cap = k then some ⟨g, o, none⟩ else some ⟨g, o + k * 3, none⟩) (LL.length - k) (cap - k) = uu
                go_wp2_with (fail)
                go_ret2
                have hpW : p ≤ W.heap.size := by have h1 := HW.out.size; have h2 := HP.out; omega
                unfold InsSaid
                first | exact ⟨v4, _, rfl, _, WHY.out, owns_mono O4.out (Nat.le_trans hpW BAH.out.size), HW.out.trans ((BAH.out.trans (B4.out.mono BAH.out.size)).mono hpW)⟩ | (rw [HP.out]; exact ⟨v4, _, rfl, _, WHY.out, owns_mono O4.out (Nat.le_trans hpW BAH.out.size), HW.out.trans ((BAH.out.trans (B4.out.mono BAH.out.size)).mono hpW)⟩)
              exact AllReadyH.nil
            exact AllReadyH.nil
          exact AllReadyH.nil
        refine reg_each (o := _) rfl (fun K hK => ?_) ?_
        · skip
          go_simp
          refine hK.out _ _ ?_ (fun hHeld2 => ?_)
          · exact below_al hHeld _
          clear hK K hHeld
          have hHeld := hHeld2
          clear hHeld2
          (try simp only [Act.put, List.setIfInBounds_toArray, List.set_cons_zero, List.set_cons_succ])
          refine wpAnyH_ready (rs := [4]) (by kernel_rfl) (by simp) ?_
          refine reg_each (o := _) rfl (fun K hK => ?_) ?_
          · skip
            refine step_append_e rfl _ _ (by rfl) WA.heap.size (.slice none 0 0) (.slice (some ⟨g, o, none⟩) k cap) [] (LL.take k) (by rfl) (by first | rfl | go_simp) (World.ownsRow_nil _ _ _ _) (HT.out.below hHeld) (by have := HN.out; first | omega | (simp; done) | (simp; omega)) hHeld.size ?_
            intro v1 W1 own1 gr1 at1
            rw [List.nil_append] at own1
            refine hK.out _ _ ?_ (fun hHeld2 => ?_)
            · exact below_grown' hHeld gr1 (fun k e => by simp [Value.ownBlock] at e) hHeld.size
            clear hK K hHeld
            have hHeld := hHeld2
            clear hHeld2
            (try simp only [Act.put, List.setIfInBounds_toArray, List.set_cons_zero, List.set_cons_succ])
            refine wpAnyH_ready (rs := [7]) (by kernel_rfl) (by simp) ?_
            refine reg_each (o := _) rfl (fun K hK => ?_) ?_
            · skip
              refine step_append_e rfl _ _ (by rfl) WA.heap.size v1 (.slice (some ⟨WA.heap.size, 0, none⟩) 1 1) (LL.take k) [e] (by rfl) (by first | rfl | go_simp) own1 (RdE.one ((gr1.block _ (by simp) (by simp [Value.ownBlock])).trans (Blk.new WA.drew 43 _))) (by have := HN.out; first | omega | (simp; done) | (simp; omega)) hHeld.size ?_
              intro v3 W3 own3 gr3 at3
              refine hK.out _ _ ?_ (fun hHeld2 => ?_)
              · exact below_grown' hHeld gr3 (fun k e => (own1.lt k e).1) hHeld.size
              clear hK K hHeld
              have hHeld := hHeld2
              clear hHeld2
              (try simp only [Act.put, List.setIfInBounds_toArray, List.set_cons_zero, List.set_cons_succ])
              refine wpAnyH_ready (rs := [11]) (by kernel_rfl) (by simp) ?_
              refine reg_each (o := _) rfl (fun K hK => ?_) ?_
              · skip
                refine step_append_e rfl _ _ (by rfl) WA.heap.size v3 (.slice (if cap = k then some ⟨g, o, none⟩ else some ⟨g, o + k * 3, none⟩) (LL.length - k) (cap - k)) ((LL.take k) ++ [e]) (LL.drop k) (by rfl) (by first | rfl | go_simp) own3 (HD.out.below hHeld) (by have := HN.out; first | omega | (simp; done) | (simp; omega)) hHeld.size ?_
                intro v4 W4 own4 gr4 at4
                refine hK.out _ _ ?_ (fun hHeld2 => ?_)
                · exact below_grown' hHeld gr4 (fun k e => (own3.lt k e).1) hHeld.size
                clear hK K hHeld
                have hHeld := hHeld2
                clear hHeld2
                (try simp only [Act.put, List.setIfInBounds_toArray, List.set_cons_zero, List.set_cons_succ])
                have O4 := Lib.hid own4
                have B4 := Lib.hid hHeld
                clear own1 own3 own4 gr1 gr3 gr4 at1 at3 at4
                refine reg_take (i := 12) (oi := _) (v := ?_) rfl (by kernel_rfl) (by kernel_rfl) (by kernel_rfl) (fun _ _ _ h => h) (by rfl) ?_ (by assumption) ?_
                rotate_left
                · intro w hSw; (try dsimp only at hSw); replace X0 := bel_cell hSw X0; replace X1 := bel_cell hSw X1; replace X2 := bel_cell hSw X2; replace zp := Nat.lt_of_lt_of_le zp hSw.size; go_simp; try with_reducible rfl
                (try simp only [Act.put, List.setIfInBounds_toArray, List.set_cons_zero, List.set_cons_succ])
                refine reg_take (i := 13) (oi := _) (v := ?_) rfl (by kernel_rfl) (by kernel_rfl) (by kernel_rfl) (fun _ _ _ h => h) (by rfl) ?_ (by assumption) ?_
                rotate_left
                · intro w hSw; (try dsimp only at hSw); replace X0 := bel_cell hSw X0; replace X1 := bel_cell hSw X1; replace X2 := bel_cell hSw X2; replace zp := Nat.lt_of_lt_of_le zp hSw.size; go_simp; try with_reducible rfl
                (try simp only [Act.put, List.setIfInBounds_toArray, List.set_cons_zero, List.set_cons_succ])
                refine wpAnyH_done (by kernel_rfl) ?_ _
                refine NoPanic.normal ?_
                generalize Value.slice (if cap = k then some ⟨g, o, none⟩ else some ⟨g, o + k * 3, none⟩) (LL.length - k) (cap - k) = uu
                go_wp2_with (fail)
                go_ret2
                have hpW : p ≤ W.heap.size := by have h1 := HW.out.size; have h2 := HP.out; omega
                unfold InsSaid
                first | exact ⟨v4, _, rfl, _, WHY.out, owns_mono O4.out (Nat.le_trans hpW BAH.out.size), HW.out.trans ((BAH.out.trans (B4.out.mono BAH.out.size)).mono hpW)⟩ | (rw [HP.out]; exact ⟨v4, _, rfl, _, WHY.out, owns_mono O4.out (Nat.le_trans hpW BAH.out.size), HW.out.trans ((BAH.out.trans (B4.out.mono BAH.out.size)).mono hpW)⟩)
              exact AllReadyH.nil
            exact AllReadyH.nil
          exact AllReadyH.nil
        exact AllReadyH.nil
end Go.Proofs.YtfbbkeekpkbjhaaDoor
