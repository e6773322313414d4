/- Equality of tracks; the document's Push and Change of a part of an array. -/
import Derived.Test.YtndipldjkojofaaDoorAny
import Derived.ChangeKeysEq
import Derived.Laws.StructEq
namespace Go.Proofs.YtndipldjkojofaaDoor
open Go.RowKit
theorem build_tk (n : Int) (l : Nat → Int) (w : World) : (Instr.build 24 #[(0, .int .i64 n), (1, .agg (ar l))]).run Tryd.prog w = .ok (.agg (tk n l)) w := by kernel_rfl
theorem part_n (n : Int) (l : Nat → Int) (w : World) : (part 3 (tk n l) 0).run Tryd.prog w = .ok (.int .i64 n) w := by kernel_rfl
theorem part_l (n : Int) (l : Nat → Int) (w : World) : (part 22 (tk n l) 1).run Tryd.prog w = .ok (.agg (ar l)) w := by kernel_rfl
theorem part_i (l : Nat → Int) (i : Nat) (hi : i < 21) (w : World) : (part 3 (ar l) (i * 1)).run Tryd.prog w = .ok (.int .i64 (l i)) w := by
  rw [Nat.mul_one]
  exact run_part_plain w (by kernel_rfl) (ar_get l i hi)
theorem items_self (l : Nat → Int) (w : World) : ∀ is : List Nat, (∀ i ∈ is, i < 21) → (Op.eqItems 9998 3 1 (ar l) (ar l) is).run Tryd.prog w = .ok true w
  | [], _ => by simp [Op.eqItems]
  | i :: is, h => by
    have hp := part_i l i (h i (by simp)) w
    have he : (Op.equalIn (9997 + 1) 3 (.int .i64 (l i)) (.int .i64 (l i))).run Tryd.prog w = .ok (l i == l i) w := run_equalIn_int w 9997 3 .i64 .i64 _ _ Tryd.underlying3
    simp only [Op.eqItems, Sem.run_bind, hp, Result.andThen_ok]
    rw [show (9998 : Nat) = 9997 + 1 from rfl, he]
    simp only [beq_self_eq_true, Result.andThen_ok]
    simpa using items_self l w is (fun j hj => h j (by simp [hj]))
theorem eq_self (n : Int) (l : Nat → Int) (w : World) : (Op.equalIn 10000 24 (.agg (tk n l)) (.agg (tk n l))).run Tryd.prog w = .ok true w := by
  have hs := run_equalIn_agg (P := Tryd.prog) w 9999 24 (tk n l) (tk n l) (by kernel_rfl) (by kernel_rfl)
  rw [show (10000 : Nat) = 9999 + 1 from rfl, hs]
  obtain ⟨f1, f2, hf, t1, t2, o1, o2, m1, m2⟩ : ∃ f1 f2 : Field, (Tryd.prog.fieldsOf 24).toList = [f1, f2] ∧ f1.type = 3 ∧ f2.type = 22 ∧ f1.offset = 0 ∧ f2.offset = 1 ∧ f1.name ≠ "_" ∧ f2.name ≠ "_" := ⟨_, _, rfl, rfl, rfl, rfl, rfl, by decide, by decide⟩
  rw [hf]
  have e3 : (Op.equalIn 9999 3 (.int .i64 n) (.int .i64 n)).run Tryd.prog w = .ok (n == n) w := run_equalIn_int w 9998 3 .i64 .i64 _ _ Tryd.underlying3
  obtain ⟨i22, hi22⟩ := info_of_underlying (P := Tryd.prog) Tryd.underlying3
  have e22 : (Op.equalIn (9998 + 1) 22 (.agg (ar l)) (.agg (ar l))).run Tryd.prog w = _ := run_equalIn_array w 9998 (ar l) (ar l) Tryd.underlying22 hi22
  rw [show Tryd.prog.cellsOf 3 = 1 by kernel_rfl, items_self l w _ (fun i hi => List.mem_range.1 hi)] at e22
  have e22' : (Op.equalIn 9999 22 (.agg (ar l)) (.agg (ar l))).run Tryd.prog w = .ok true w := e22
  simp only [Op.eqFields, t1, t2, o1, o2, if_pos m1, if_pos m2, Sem.run_bind, part_n, part_l, Result.andThen_ok, e3, beq_self_eq_true, Bool.not_true, Bool.false_eq_true, if_false, e22', Sem.run_pure]
theorem eql_self (n : Int) (l : Nat → Int) (w : World) : (binOp .eql 24 (.agg (tk n l)) (.agg (tk n l))).run Tryd.prog w = .ok (.bool true) w := by
  rw [run_eql_struct, eq_self]; rfl
theorem tk_of_may {n : Int} {l : Nat → Int} (h : mayP n l) : ∃ x : List Int, okT x ∧ (x.length : Int) = n ∧ tk n l = trk x ∧ ∀ j, j < x.length → x.getD j 0 = l j := by
  obtain ⟨N, rfl⟩ := Int.eq_ofNat_of_zero_le h.1
  have hN : N ≤ 21 := by have := h.2.1; omega
  refine ⟨(List.range N).map l, ⟨by simpa using hN, fun j => ?_⟩, by simp, ?_, fun j hj => ?_⟩
  · by_cases hj : j < N
    · have := h.2.2 j (by omega)
      simp [List.getD, hj]; omega
    · rw [getD_out _ _ (by simp; omega)]; omega
  · apply Array.ext
    · simp [tk_size, trk_size]
    · intro i h1 h2
      rw [tk_size] at h1
      have a := tk_get (N : Int) l i h1
      have b := trk_get ((List.range N).map l) i h1
      rw [Array.getElem?_eq_getElem (by rw [tk_size]; exact h1)] at a
      rw [Array.getElem?_eq_getElem (by rw [trk_size]; exact h1)] at b
      rw [Option.some.inj a, Option.some.inj b]
      congr 1
      unfold cellT
      by_cases hi : i = 0
      · rw [if_pos hi, if_pos hi]; simp
      · rw [if_neg hi, if_neg hi]
        by_cases hlt : i - 1 < N
        · simp [List.getD, hlt]
        · rw [getD_out _ _ (by simp; omega)]
          exact (h.2.2 (i - 1) (by omega)).2.2 (by omega)
  · simp at hj
    simp [List.getD, hj]
set_option maxRecDepth 100000 in
set_option maxHeartbeats 2000000 in
theorem rpush_zero (ad : Addr) (cap : Nat) (s : Int) (w : World) (s0 : 0 ≤ s) (s3 : s ≤ 3) : Calls Tryd.prog 10 #[.slice (some ad) 0 cap, .int .i64 s] w fun e w' => (∃ v, e = .returned v ∧ NInts w' v (pushF [] s) ∧ FarB w.heap.size v) ∧ Below w.heap.size w w' := by
  obtain ⟨i0, hi0, hz0, hz1, hz2⟩ := info_parts info3
  go_enter Tryd.func10, Tryd.ntmps10
  go_wp2_with (first | (at_builtin; refine wpList_append_own _ rfl (.tmp 13) (.tmp 14) 33 rfl w.heap.size 3 i0 (.int .i64 0) 1 8 Tryd.underlying33 hi0 hz0 hz1 hz2 rfl (by decide) (.slice none 0 0) 0 [] rfl (World.ownsRow_nil _ _ _ _) ad 0 cap [] rfl rfl (by simp) (by simp) (by simp only [maxLen]; omega) (by omega) (Nat.le_refl _) ?_; intro v1 w1 own1 gr1 hnil; obtain rfl := hnil.2 ⟨rfl, rfl⟩) | (at_builtin; refine wpList_append_lies _ rfl (.tmp 15) (.tmp 17) 33 rfl w.heap.size 3 i0 (.int .i64 0) 1 8 Tryd.underlying33 hi0 hz0 hz1 hz2 rfl (by decide) (.slice none 0 0) 0 [] rfl (World.ownsRow_nil _ _ _ _) ⟨w1.heap.size, 0, none⟩ 1 1 [.int .i64 s] rfl rfl (World.news_of_block (heap_alloc_new w1 _)) (by simp [Value.oneCell']) (by omega) (by simp only [maxLen]; omega) (by omega) (by have := gr1.size; simp; omega) _ rfl ?_; intro g2 c2 w2 own2 gr2 at2 lt2; simp only [Nat.zero_add, List.nil_append] at own2))
  have bel : Below w.heap.size w w2 := (((Below.refl w.heap.size w).grown gr1 (Nat.le_refl _) (fun k hk => by cases hk)).alloc gr1.size _).grown gr2 (by have := gr1.size; simp; omega) (fun k hk => by cases hk)
  have hr := own_ints (ys := [s]) own2 (by omega) (getD_ok fun v hv => by rw [List.mem_singleton.1 hv]; exact ⟨s0, s3⟩)
  go_ret
  exact ⟨⟨_, rfl, Or.inr ⟨_, c2, rfl, by simp [pushF], hr.1⟩, fun ad n c h => by cases h; exact (own2.lt g2 rfl).1⟩, bel⟩
theorem NInts.ints {w : World} {v : Value} {x : List Int} (h : NInts w v x) : ∃ A cap, v = .slice A x.length cap ∧ Ints w A x.length x := by
  rcases h with ⟨rfl, rfl⟩ | ⟨ad, cap, e, _, hi⟩
  · exact ⟨none, 0, rfl, rfl, by decide, fun j h => by simp at h, fun h => by simp at h⟩
  · exact ⟨_, _, e, hi⟩
theorem rpush_ints (ad : Addr) (cap : Nat) (x : List Int) (s : Int) (w : World) (hi : Ints w (some ad) x.length x) (hx : okT x) : Calls Tryd.prog 10 #[.slice (some ad) x.length cap, .int .i64 s] w fun e w' => (∃ A c, e = .returned (.slice A (pushA x s).length c) ∧ Ints w' A (pushA x s).length (pushA x s)) ∧ Below w.heap.size w w' := by
  unfold pushA
  split
  · rename_i h
    exact (rpush_bad _ s w h).mono fun e w' ⟨he, hw⟩ => ⟨⟨_, _, he, hw ▸ hi⟩, hw ▸ Below.refl _ _⟩
  · rename_i h
    by_cases h0 : 0 < x.length
    · exact (rpush_some ad cap x s w hi hx h0 (by omega) (by omega)).mono fun e w' ⟨⟨v, he, hv, _⟩, hb⟩ => by
        obtain ⟨A, c, rfl, hA⟩ := hv.ints
        exact ⟨⟨A, c, he, hA⟩, hb⟩
    · obtain rfl : x = [] := List.eq_nil_of_length_eq_zero (by omega)
      exact (rpush_zero ad cap s w (by omega) (by omega)).mono fun e w' ⟨⟨v, he, hv, _⟩, hb⟩ => by
        obtain ⟨A, c, rfl, hA⟩ := hv.ints
        exact ⟨⟨A, c, he, hA⟩, hb⟩
set_option maxRecDepth 100000 in
theorem rchange_zero (A : Option Addr) (cap : Nat) (w : World) : Calls Tryd.prog 11 #[.slice A 0 cap] w fun e w' => e = .returned (.int .i64 (chgF [])) ∧ Below w.heap.size w w' := by
  go_enter Tryd.func11, Tryd.ntmps11
  go_upto_region 3 with (fail)
  go_loopw [4, 3] (fun i s wr => i = .int .i64 1 ∧ s = .int .i64 0 ∧ wr = w) (fun _ _ _ => 0)
  case atStart => exact ⟨rfl, rfl, rfl⟩
  case round =>
    obtain ⟨rfl, rfl, rfl⟩ := hrel
    go_wp2
    go_ret
    exact ⟨rfl, Below.refl _ _⟩
theorem rchange_ints (ad : Addr) (cap : Nat) (x : List Int) (w : World) (hi : Ints w (some ad) x.length x) (hl : x.length ≤ 21) : Calls Tryd.prog 11 #[.slice (some ad) x.length cap] w fun e w' => e = .returned (.int .i64 (chgF x)) ∧ Below w.heap.size w w' := by
  by_cases h0 : 0 < x.length
  · exact rchange_some ad cap x w hi hl h0
  · obtain rfl : x = [] := List.eq_nil_of_length_eq_zero (by omega)
    exact rchange_zero _ _ _
theorem eql_guarded {ops : Array Oper} {rest : List Oper} {o : Oper} {a : Act} {w : World} {Q : Exit → Act → World → Prop} (hw : Region.wanted o (yielded ops a.tmps) = true) (x y : Operand) (yt : TypeId) (ho : o.op = .binOp .eql 24 x y yt)
    (n : Int) (l : Nat → Int) (hx : a.eval x = .agg (tk n l)) (hy : a.eval y = .agg (tk n l)) (h : wpList Tryd.prog ops Q rest (a.put o.dst (.bool true)) w) : wpList Tryd.prog ops Q (o :: rest) a w := by
  simp only [wpList, hw, if_true]
  refine Or.inl ?_
  have hm : Tryd.prog.eqGuardType Tryd.prog.depth 24 = false := by kernel_rfl
  unfold Oper.wp execOp
  simp only [ho, hx, hy, Sem.run_bind, run_eqGuard_agg w .eql 24 x y (tk n l) (tk n l) hm, eql_self, Sem.run_pure, Result.andThen_ok]
  exact h
theorem build_law {ops : Array Oper} {rest : List Oper} {o : Oper} {a : Act} {w : World} {Q : Exit → Act → World → Prop} (hw : Region.wanted o (yielded ops a.tmps) = true) (x y : Operand) (ho : o.op = .build 24 #[(0, x), (1, y)])
    (n : Int) (l : Nat → Int) (hx : a.eval x = .int .i64 n) (hy : a.eval y = .agg (ar l)) (h : wpList Tryd.prog ops Q rest (a.put o.dst (.agg (tk n l))) w) : wpList Tryd.prog ops Q (o :: rest) a w := by
  simp only [wpList, hw, if_true]
  refine Or.inl ?_
  have hb := build_tk n l w
  unfold Oper.wp execOp
  simp only [ho, List.map_toArray, List.map_cons, List.map_nil, hx, hy, hb, Sem.run_bind, Sem.run_pure, Result.andThen_ok]
  exact h
theorem ints_ar {w : World} {g : Nat} {l : Nat → Int} {x : List Int} (h : Blk w g 22 (ar l)) (hx : okT x) (hl : ∀ j, j < x.length → x.getD j 0 = l j) : Ints w (some ⟨g, 0, none⟩) x.length x := by
  have := hx.1
  refine ⟨rfl, by omega, fun j _ => by have := hx.2 j; omega, fun _ => ⟨_, rfl, h.lt, fun j hj => ?_⟩⟩
  rw [slot_add, h.cell, ar_get _ _ (by omega), hl j hj]
end Go.Proofs.YtndipldjkojofaaDoor
