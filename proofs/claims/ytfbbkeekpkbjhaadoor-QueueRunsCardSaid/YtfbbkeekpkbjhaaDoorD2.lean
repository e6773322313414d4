/- The document's list: Find. -/
import Derived.Test.YtfbbkeekpkbjhaaDoorD1
namespace Go.Proofs.YtfbbkeekpkbjhaaDoor
open Go.RowKit
def KD (e : Ev) (a b : Int) : Prop := e.k = a ∧ e.d = b
theorem RdE.form {w : World} {v : Value} {L : List Ev} (h : RdE w v L) : ∃ A cap, v = .slice A L.length cap ∧ L.length ≤ cap ∧ (A = none → cap = 0) ∧ (∀ ad, A = some ad → ad.block < w.heap.size ∧ ad = ⟨ad.block, ad.off, none⟩) ∧ ∀ i, i < L.length → ∃ g o, A = some ⟨g, o, none⟩ ∧ g < w.heap.size ∧ w.cell? ⟨g, o + i * 3, none⟩ = some (.int .i64 (L.getD i ⟨0, 0, 0⟩).t) ∧ w.cell? ⟨g, o + i * 3 + 1, none⟩ = some (.int .i64 (L.getD i ⟨0, 0, 0⟩).k) ∧ w.cell? ⟨g, o + i * 3 + 2, none⟩ = some (.int .i64 (L.getD i ⟨0, 0, 0⟩).d) := by
  rcases h with ⟨e, hE⟩ | ⟨g, o, cap, e, hc, hg, hh⟩
  · subst hE; exact ⟨none, 0, e, Nat.le_refl _, (fun _ => rfl), (fun ad h => by cases h), (fun i hi => by simp at hi)⟩
  · exact ⟨_, _, e, hc, (fun h => by cases h), (fun ad h => by cases h; exact ⟨hg, rfl⟩), (fun i hi => ⟨g, o, rfl, hg, hh i hi⟩)⟩
def FdSaid (L : List Ev) (a b r : Int) : Prop := (r = -1 ∧ ∀ e ∈ L, ¬ KD e a b) ∨ ∃ i : Nat, i < L.length ∧ r = i ∧ KD (L.getD i ⟨0, 0, 0⟩) a b
set_option maxRecDepth 100000 in
set_option maxHeartbeats 1000000 in
theorem reffind_walk (v : Value) (L : List Ev) (a b : Int) (w : World) (h : RdE w v L) (hl : L.length ≤ 65536) :
    Calls Tryd.prog 14 #[v, .int .i64 a, .int .i64 b] w fun x w' => w' = w ∧ ∃ r : Int, x = .returned (.int .i64 r) ∧ FdSaid L a b r := by
  obtain ⟨A, cap, rfl, hc, hn, _, hh⟩ := h.form
  have HH := Lib.hid hh
  clear hh h hn hc
  go_enter Tryd.func14, Tryd.ntmps14
  go_upto_region 2 with (fail)
  go_loopw [7] (fun iv wr => ∃ i : Nat, iv = .int .i64 i ∧ i ≤ L.length ∧ wr = w ∧ ∀ j, j < i → ¬ KD (L.getD j ⟨0, 0, 0⟩) a b) (fun iv _ => L.length - (intOf iv).toNat)
  case atStart => exact ⟨0, rfl, Nat.zero_le _, rfl, fun j hj => by omega⟩
  case round =>
    obtain ⟨i, rfl, hi, rfl, hno⟩ := hrel
    have i0 : (0 : Int) ≤ i := by omega
    by_cases hlt : i < L.length
    · obtain ⟨g, o, rfl, hg, c0, c1, c2⟩ := HH.out i hlt
      have hlt' : (i : Int) < (L.length : Int) := by omega
      generalize hE : L.getD i ⟨0, 0, 0⟩ = E at *
      by_cases hk : E.k = a
      · have d1 : (E.k == a) = true := by simp [hk]
        by_cases hd : E.d = b
        · have d2 : (E.d == b) = true := by simp [hd]
          clear hno HH
          go_wp2_with (fail)
          go_ret
          exact ⟨rfl, _, rfl, .inr ⟨i, hlt, rfl, by rw [hE]; exact ⟨hk, hd⟩⟩⟩
        · have d2 : (E.d == b) = false := by simp [hd]
          have HN := Lib.hid hno
          clear hno
          go_wp2_with (fail)
          go_roundw
          case rel =>
            refine ⟨i + 1, by go_num, by omega, by first | rfl | trivial, fun j hj => ?_⟩
            by_cases hji : j = i
            · subst hji; rw [hE]; exact fun h => hd h.2
            · exact HN.out j (by omega)
          case measure => simp [intOf]; omega
      · have d1 : (E.k == a) = false := by simp [hk]
        have HN := Lib.hid hno
        clear hno
        go_wp2_with (fail)
        go_roundw
        case rel =>
          refine ⟨i + 1, by go_num, by omega, by first | rfl | trivial, fun j hj => ?_⟩
          by_cases hji : j = i
          · subst hji; rw [hE]; exact fun h => hk h.1
          · exact HN.out j (by omega)
        case measure => simp [intOf]; omega
    · obtain rfl : i = L.length := by omega
      have HN := Lib.hid hno
      clear hno
      go_wp2_with (fail)
      go_ret
      refine ⟨rfl, _, rfl, .inl ⟨rfl, fun e he => ?_⟩⟩
      obtain ⟨j, hj, rfl⟩ := List.getElem_of_mem he
      have := HN.out j hj
      rw [List.getD_eq_getElem?_getD, List.getElem?_eq_getElem hj] at this
      exact this
theorem RdE.drop' {w : World} {g o n cap : Nat} {L : List Ev} (h : RdE w (.slice (some ⟨g, o, none⟩) n cap) L) {i : Nat} (hi : i ≤ n) : RdE w (.slice (if cap = i then some ⟨g, o, none⟩ else some ⟨g, o + i * 3, none⟩) (n - i) (cap - i)) (L.drop i) := by
  by_cases hc : cap = i
  · rw [if_pos hc]
    rcases h with ⟨e, _⟩ | ⟨g', o', cap', e, hc', hg, hh⟩
    · cases e
    · simp only [Value.slice.injEq, Option.some.injEq, Addr.mk.injEq, and_true] at e
      obtain ⟨⟨rfl, rfl⟩, rfl, rfl⟩ := e
      have hl : (L.drop i).length = 0 := by rw [List.length_drop]; omega
      exact .inr ⟨g, o, cap - i, by rw [hl, show L.length - i = 0 by omega], by omega, hg, fun j hj => by omega⟩
  · rw [if_neg hc]; exact h.drop hi
theorem erase_eq {L : List Ev} {i : Nat} : L.eraseIdx i = L.take i ++ L.drop (i + 1) := List.eraseIdx_eq_take_drop_succ L i
set_option maxRecDepth 100000 in
set_option maxHeartbeats 1000000 in
theorem without_walk (v : Value) (L : List Ev) (i : Nat) (w : World) (h : RdE w v L) (hi : i < L.length) (hl : L.length ≤ 65536) :
    Calls Tryd.prog 15 #[v, .int .i64 i] w fun x w' => ∃ v', x = .returned v' ∧ w'.ownsRow w.heap.size 43 3 v' (L.eraseIdx i).length (cellsE (L.eraseIdx i)) ∧ Below w.heap.size w w' := by
  obtain ⟨A, cap, rfl, hc, hn, _, hh⟩ := h.form
  obtain ⟨g, o, rfl, hg, _⟩ := hh i hi
  have i0 : (0 : Int) ≤ i := by omega
  have i1 : (i : Int) ≤ (cap : Int) := by omega
  have i2 : IntKind.i64.wrap ((i : Int) + 1) = (i : Int) + 1 := by rw [IntKind.wrap_i64]; omega
  have i3 : (0 : Int) ≤ (i : Int) + 1 := by omega
  have i4 : (i : Int) + 1 ≤ (L.length : Int) := by omega
  have i5 : ((i : Int) + 1).toNat = i + 1 := by omega
  have HT := h.take (Nat.le_of_lt hi)
  have HD := h.drop' (show i + 1 ≤ L.length by omega)
  have hlt : (L.take i).length = i := by rw [List.length_take]; omega
  have hld : (L.drop (i + 1)).length = L.length - (i + 1) := List.length_drop
  clear hh h
  go_enter Tryd.func15, Tryd.ntmps15
  go_upto_region 2 with (fail)
  refine wp_region_noPanic ?_
  refine wp_region_held_drew (S := (fun _ => True)) (by kernel_rfl) ?_ (fun hHeld => ?_)
  · trivial
  refine reg_take (i := 0) (oi := _) (v := ?_) rfl (by kernel_rfl) (by kernel_rfl) (by kernel_rfl) (fun _ _ _ h => h) (by rfl) ?_ (by assumption) ?_
  rotate_left
  · intro w hSw; (try dsimp only at hSw); go_simp; try with_reducible rfl
  (try simp only [Act.put, List.setIfInBounds_toArray, List.set_cons_zero, List.set_cons_succ])
  refine reg_take (i := 1) (oi := _) (v := ?_) rfl (by kernel_rfl) (by kernel_rfl) (by kernel_rfl) (fun _ _ _ h => h) (by rfl) ?_ (by assumption) ?_
  rotate_left
  · intro w hSw; (try dsimp only at hSw); go_simp; try with_reducible rfl
  (try simp only [Act.put, List.setIfInBounds_toArray, List.set_cons_zero, List.set_cons_succ])
  refine reg_take (i := 2) (oi := _) (v := ?_) rfl (by kernel_rfl) (by kernel_rfl) (by kernel_rfl) (fun _ _ _ h => h) (by rfl) ?_ (by assumption) ?_
  rotate_left
  · intro w hSw; (try dsimp only at hSw); go_simp; try with_reducible rfl
  (try simp only [Act.put, List.setIfInBounds_toArray, List.set_cons_zero, List.set_cons_succ])
  refine reg_take (i := 3) (oi := _) (v := ?_) rfl (by kernel_rfl) (by kernel_rfl) (by kernel_rfl) (fun _ _ _ h => h) (by rfl) ?_ (by assumption) ?_
  rotate_left
  · intro w hSw; (try dsimp only at hSw); go_simp; try with_reducible rfl
  (try simp only [Act.put, List.setIfInBounds_toArray, List.set_cons_zero, List.set_cons_succ])
  refine reg_take (i := 5) (oi := _) (v := ?_) rfl (by kernel_rfl) (by kernel_rfl) (by kernel_rfl) (fun _ _ _ h => h) (by rfl) ?_ (by assumption) ?_
  rotate_left
  · intro w hSw; (try dsimp only at hSw); go_simp; try with_reducible rfl
  (try simp only [Act.put, List.setIfInBounds_toArray, List.set_cons_zero, List.set_cons_succ])
  refine reg_take (i := 6) (oi := _) (v := ?_) rfl (by kernel_rfl) (by kernel_rfl) (by kernel_rfl) (fun _ _ _ h => h) (by rfl) ?_ (by assumption) ?_
  rotate_left
  · intro w hSw; (try dsimp only at hSw); go_simp; try with_reducible rfl
  (try simp only [Act.put, List.setIfInBounds_toArray, List.set_cons_zero, List.set_cons_succ])
  refine reg_take (i := 7) (oi := _) (v := ?_) rfl (by kernel_rfl) (by kernel_rfl) (by kernel_rfl) (fun _ _ _ h => h) (by rfl) ?_ (by assumption) ?_
  rotate_left
  · intro w hSw; (try dsimp only at hSw); go_simp; try with_reducible rfl
  (try simp only [Act.put, List.setIfInBounds_toArray, List.set_cons_zero, List.set_cons_succ])
  refine reg_take (i := 8) (oi := _) (v := ?_) rfl (by kernel_rfl) (by kernel_rfl) (by kernel_rfl) (fun _ _ _ h => h) (by rfl) ?_ (by assumption) ?_
  rotate_left
  · intro w hSw; (try dsimp only at hSw); go_simp; try with_reducible rfl
  (try simp only [Act.put, List.setIfInBounds_toArray, List.set_cons_zero, List.set_cons_succ])
  refine wpAnyH_ready (rs := [4]) (by kernel_rfl) (by simp) ?_
  refine reg_each (o := _) rfl (fun K hK => ?_) ?_
  · skip
    refine step_append_e rfl _ _ (by rfl) w.heap.size (.slice none 0 0) (.slice (some ⟨g, o, none⟩) i cap) [] (L.take i) (by rfl) (by first | rfl | go_simp) (World.ownsRow_nil _ _ _ _) (HT.below (below_drewN (Below.refl _ _) 1)) (by first | omega | (simp; omega)) (by first | exact Nat.le_refl _ | omega | (simp; omega)) ?_
    intro v1 W1 own1 gr1 at1
    rw [List.nil_append] at own1
    refine hK.out _ _ ?_ (fun hHeld2 => ?_)
    · trivial
    clear hK K hHeld
    have hHeld := hHeld2
    clear hHeld2
    (try simp only [Act.put, List.setIfInBounds_toArray, List.set_cons_zero, List.set_cons_succ])
    have B1 := below_grown' (below_drewN (Below.refl w.heap.size w) 1) gr1 (fun k e => by simp [Value.ownBlock] at e) (by simp)
    have hs1 := B1.size
    refine wpAnyH_ready (rs := [9]) (by kernel_rfl) (by simp) ?_
    refine reg_each (o := _) rfl (fun K hK => ?_) ?_
    · skip
      refine step_append_e rfl _ _ (by rfl) w.heap.size v1 (.slice (if cap = i + 1 then some ⟨g, o, none⟩ else some ⟨g, o + (i + 1) * 3, none⟩) (L.length - (i + 1)) (cap - (i + 1))) (L.take i) (L.drop (i + 1)) (by rfl) (by first | rfl | go_simp) own1 (HD.below B1) (by first | omega | (simp; omega)) (by first | exact Nat.le_refl _ | omega | (simp; omega)) ?_
      intro v2 W2 own2 gr2 at2
      refine hK.out _ _ ?_ (fun hHeld2 => ?_)
      · trivial
      clear hK K hHeld
      have hHeld := hHeld2
      clear hHeld2
      (try simp only [Act.put, List.setIfInBounds_toArray, List.set_cons_zero, List.set_cons_succ])
      have B2 := below_grown' B1 gr2 (fun k e => (own1.lt k e).1) (by first | omega | (simp; omega))
      have O2 := Lib.hid own2
      have BB := Lib.hid B2
      clear own1 own2 gr1 gr2 at1 at2 B1 B2 HD HT hs1 hlt hld i1 i3 i4 i5
      refine reg_take (i := 10) (oi := _) (v := ?_) rfl (by kernel_rfl) (by kernel_rfl) (by kernel_rfl) (fun _ _ _ h => h) (by rfl) ?_ (by assumption) ?_
      rotate_left
      · intro w hSw; (try dsimp only at hSw); go_simp; try with_reducible rfl
      (try simp only [Act.put, List.setIfInBounds_toArray, List.set_cons_zero, List.set_cons_succ])
      refine wpAnyH_done (by kernel_rfl) ?_ _
      refine NoPanic.normal ?_
      generalize Value.slice (if cap = i + 1 then some ⟨g, o, none⟩ else some ⟨g, o + (i + 1) * 3, none⟩) (L.length - (i + 1)) (cap - (i + 1)) = uu
      go_wp2_with (fail)
      go_ret
      exact ⟨v2, rfl, by rw [erase_eq]; exact O2.out, BB.out⟩
    exact AllReadyH.nil
  exact AllReadyH.nil
end Go.Proofs.YtfbbkeekpkbjhaaDoor
