/- A queue: one more behind it. -/
import Derived.Test.YtbnnbhblfclomaaDoorF1
import Derived.Test.YtbnnbhblfclomaaDoorK0
import Derived.ArgAppend
namespace Go.Proofs.YtbnnbhblfclomaaDoor
open Go.RowKit
set_option linter.unusedSimpArgs false
set_option linter.unusedVariables false
/-- A queue of one's own, one more behind it. -/
theorem frow_push (w : World) (B : Nat) (v : Value) (l : List Nat) (y q ty : Nat) (hF : FRow w B v l) (hq : Blk w q 3 #[.int .i64 (y : Int)]) (hB : B ≤ w.heap.size) (hl : l.length ≤ 1048576) :
    ∃ v' w', (Builtin.append_ #[26, 26] ty #[v, .slice (some ⟨q, 0, none⟩) 1 1]).run Tryd.prog w = .ok v' w' ∧ FRow w' B v' (l ++ [y]) ∧ w.grownBy w' v.ownBlock ∧ (v'.ownBlock = v.ownBlock ∨ v'.ownBlock = some w.heap.size) := by
  obtain ⟨i0, hi0, hz0, hz1, hz2⟩ := info_parts info3
  have hnews : ∀ j u, [Value.int .i64 (y : Int)][j]? = some u → w.cell? ((⟨q, 0, none⟩ : Addr).add j) = some u := fun j u hj => by
    rw [add_lit0, Nat.zero_add, hq.cell]; simpa using hj
  have h1v : ∀ u ∈ [Value.int .i64 (y : Int)], u.oneCell' = true := by simp [Value.oneCell']
  obtain ⟨A, cap, rfl, hlc, hcm, hA⟩ := hF
  rcases hA with ⟨rfl, rfl⟩ | ⟨g, o, cs, rfl, hBg, hb, hoc, hcs⟩
  · have hl0 : l = [] := List.length_eq_zero_iff.1 (by omega)
    subst hl0
    obtain ⟨v', w', hr, h2, h3, _, h5⟩ := run_append_own_at (P := Tryd.prog) w B 26 ty 3 i0 (.int .i64 0) 1 8 Tryd.underlying26 hi0 hz0 hz1 hz2 rfl (by decide) (.slice none 0 0) 0 [] (World.ownsRow_nil _ _ _ _) ⟨q, 0, none⟩ 1 1 [.int .i64 (y : Int)] rfl hnews h1v (by simp [maxLen]) (by omega) hB
    exact ⟨v', w', hr, FRow.of_owns (l := [y]) h2, h3, h5⟩
  · by_cases hroom : l.length + 1 ≤ cap
    · have hr := run_append_room_cells (P := Tryd.prog) (w := w) 26 ty 3 i0 Tryd.underlying26 hi0 g o l.length cap ⟨q, 0, none⟩ 1 1 [.int .i64 (y : Int)] (by rw [hz1]; rfl) hnews h1v hroom (fun j hj => by
        rw [hz1, hb.cell]
        have : o + l.length * 1 + j < cs.size := by simp at hj; omega
        rw [Array.getElem?_eq_getElem this]; rfl) (fun j hj => hb.frozen _)
      rw [hz1, Nat.mul_one] at hr
      obtain ⟨cs2, hb2, hs2, h3, h4⟩ := hb.puts [.int .i64 (y : Int)] (o + l.length)
      refine ⟨_, _, hr, ⟨_, cap, by simp, by simp; omega, hcm, .inr ⟨g, o, cs2, rfl, hBg, hb2, by omega, fun j x hj => ?_⟩⟩, setCells_grown w _ g _ _ _ (World.grownBy.refl w _) (.inl rfl), .inl rfl⟩
      by_cases hjl : j < l.length
      · rw [List.getElem?_append_left hjl] at hj
        rw [h4 _ (.inl (by omega))]; exact hcs j x hj
      · have hj2 : j = l.length := by
          have := (List.getElem?_eq_some_iff.1 hj).1
          simp at this; omega
        subst hj2
        rw [List.getElem?_append_right (Nat.le_refl _)] at hj
        simp at hj
        subst hj
        rw [h3 _ (Nat.le_refl _) (by simp) (by omega)]; simp
    · have hgc := run_append_grow (P := Tryd.prog) (w := w) 26 ty 3 i0 (.int .i64 0) Tryd.underlying26 hi0 hz0 ⟨g, o, none⟩ l.length cap (nats l) (by rw [hz1, Nat.mul_one]; exact nats_len l) (fun j u hj => by
        obtain ⟨x, h1, rfl⟩ := nats_of hj
        rw [add_lit0, hb.cell]; exact hcs j x h1) ⟨q, 0, none⟩ 1 1 [.int .i64 (y : Int)] (by rw [hz1]; rfl) hnews (by omega) (by omega) (by
        rw [hz2]
        have := nextslicecap_le (need := l.length + 1) (old := cap) (by omega)
        omega)
      have hge := grownCap_ge w (l.length + 1) cap 3
      have hgm := grownCap_le_maxLen w (l.length + 1) cap 3 (by simp only [maxLen]; omega)
      have hb2 : Blk (w.drew.alloc (.cells ((nats l).toArray ++ [Value.int .i64 (y : Int)].toArray ++ Builtin.zeroCells (Value.int .i64 0).cells (grownCap w (l.length + 1) cap 3 - (l.length + 1))) 3)) w.heap.size 3 ((nats l).toArray ++ [Value.int .i64 (y : Int)].toArray ++ Builtin.zeroCells (Value.int .i64 0).cells (grownCap w (l.length + 1) cap 3 - (l.length + 1))) := Blk.new w.drew 3 _
      refine ⟨_, _, hgc, ?_, grown_alloc (grown_drew (World.grownBy.refl w _)) _, .inr rfl⟩
      refine frow_new _ B _ _ _ _ _ (by simp) hB hb2 ?_ hge hgm ?_
      · rw [Array.size_append, Array.size_append, size_zeroCells]
        simp [nats_len]
        show l.length + 1 + (grownCap w (l.length + 1) cap 3 - (l.length + 1)) * 1 = _
        omega
      · intro j x hj
        have hjl := (List.getElem?_eq_some_iff.1 hj).1
        simp at hjl
        by_cases hjl2 : j < l.length
        · rw [List.getElem?_append_left hjl2] at hj
          rw [Array.append_assoc, Array.getElem?_append_left (by simp [nats_len]; omega)]
          have := nats_get hj
          simpa using this
        · have hj2 : j = l.length := by omega
          subst hj2
          rw [List.getElem?_append_right (Nat.le_refl _)] at hj
          simp at hj
          subst hj
          rw [Array.getElem?_append_left (by simp [nats_len]), Array.getElem?_append_right (by simp [nats_len])]
          simp [nats_len]
theorem wpList_append_frow {w : World} {ops : Array Oper} {rest : List Oper} {o : Oper} {a : Act} {Q : Exit → Act → World → Prop} (hgd : o.guard = none) (s x : Operand)
    (ho : o.op = .call { callee := .builtin .append, args := #[s, x], argTypes := #[26, 26] }) (B : Nat) (v : Value) (l : List Nat) (y q : Nat) (hs : a.eval s = v) (hx : a.eval x = .slice (some ⟨q, 0, none⟩) 1 1)
    (hF : FRow w B v l) (hq : Blk w q 3 #[.int .i64 (y : Int)]) (hB : B ≤ w.heap.size) (hl : l.length ≤ 1048576)
    (h : ∀ v' w', FRow w' B v' (l ++ [y]) → w.grownBy w' v.ownBlock → (v'.ownBlock = v.ownBlock ∨ v'.ownBlock = some w.heap.size) → wpList Tryd.prog ops Q rest (a.put o.dst v') w') :
    wpList Tryd.prog ops Q (o :: rest) a w := by
  refine wpList_plain hgd fun K hK => ?_
  obtain ⟨v', w', hr, h2, h3, h5⟩ := frow_push w B v l y q o.type hF hq hB hl
  unfold Oper.wp execOp
  simp only [ho, resolve, invoke, builtin, Sem.run_bind, Sem.run_pure, Result.andThen_ok, List.map_toArray, List.map_cons, List.map_nil, hs, hx, hr]
  exact hK _ _ (h v' w' h2 h3 h5)
end Go.Proofs.YtbnnbhblfclomaaDoor
