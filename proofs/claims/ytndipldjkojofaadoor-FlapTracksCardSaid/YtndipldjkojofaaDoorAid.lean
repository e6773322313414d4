/- Aid to the laws of chapter 16: the law's sure, Flaps, the laws by which a region that draws its order is walked. -/
import Derived.Test.YtndipldjkojofaaDoorTrack
import Derived.Deep.RegionHeld3
import Derived.Laws.BitsLemmas
namespace Go.Proofs.YtndipldjkojofaaDoor
open Go.RowKit
theorem sure_c : chgF [0, 1, 0] = 2260 := by decide
theorem okT_lit : okT [] ∧ okT [0] ∧ okT [0, 1] ∧ okT [0, 1, 0] := by
  refine ⟨⟨by decide, getD_ok (by simp)⟩, ⟨by decide, getD_ok (by simp)⟩, ⟨by decide, getD_ok (by simp)⟩, ⟨by decide, getD_ok (by simp)⟩⟩
def sureL : Nat → List Int
  | 0 => []
  | 1 => [0]
  | 2 => [0, 1]
  | _ => [0, 1, 0]
set_option maxRecDepth 100000 in
set_option maxHeartbeats 2000000 in
theorem sure_walk (w : World) : Calls Tryd.prog 9 #[] w fun e w' => e = .returned (.bool true) ∧ Below w.heap.size w w' := by
  have p0 := fun w => push_walk [] 0 w okT_lit.1 (by decide) (by decide)
  have p1 := fun w => push_walk [0] 1 w okT_lit.2.1 (by decide) (by decide)
  have p2 := fun w => push_walk [0, 1] 0 w okT_lit.2.2.1 (by decide) (by decide)
  rw [show pushF [] 0 = [0] by decide] at p0
  rw [show pushF [0] 1 = [0, 1] by decide] at p1
  rw [show pushF [0, 1] 0 = [0, 1, 0] by decide] at p2
  have pc := fun w => change_walk [0, 1, 0] w okT_lit.2.2.2
  rw [sure_c] at pc
  have P0 := Lib.hid p0; have P1 := Lib.hid p1; have P2 := Lib.hid p2; have PC := Lib.hid pc
  clear p0 p1 p2 pc
  have hb : Blk (w.alloc (.cells #[.int .i64 0, .int .i64 0, .int .i64 0, .int .i64 0, .int .i64 0, .int .i64 0, .int .i64 0, .int .i64 0, .int .i64 0, .int .i64 0, .int .i64 0, .int .i64 0, .int .i64 0, .int .i64 0, .int .i64 0, .int .i64 0, .int .i64 0, .int .i64 0, .int .i64 0, .int .i64 0, .int .i64 0, .int .i64 0] 24)) w.heap.size 24 (trk []) := Blk.new w 24 _
  have B0 := below_al (Below.refl w.heap.size w) (.cells #[.int .i64 0, .int .i64 0, .int .i64 0, .int .i64 0, .int .i64 0, .int .i64 0, .int .i64 0, .int .i64 0, .int .i64 0, .int .i64 0, .int .i64 0, .int .i64 0, .int .i64 0, .int .i64 0, .int .i64 0, .int .i64 0, .int .i64 0, .int .i64 0, .int .i64 0, .int .i64 0, .int .i64 0, .int .i64 0] 24)
  go_enter Tryd.func9, Tryd.ntmps9
  go_upto_region 3 with (fail)
  generalize w.alloc (Obj.cells #[Value.int IntKind.i64 0, Value.int IntKind.i64 0, Value.int IntKind.i64 0, Value.int IntKind.i64 0, Value.int IntKind.i64 0, Value.int IntKind.i64 0, Value.int IntKind.i64 0, Value.int IntKind.i64 0, Value.int IntKind.i64 0, Value.int IntKind.i64 0, Value.int IntKind.i64 0, Value.int IntKind.i64 0, Value.int IntKind.i64 0, Value.int IntKind.i64 0, Value.int IntKind.i64 0, Value.int IntKind.i64 0, Value.int IntKind.i64 0, Value.int IntKind.i64 0, Value.int IntKind.i64 0, Value.int IntKind.i64 0, Value.int IntKind.i64 0, Value.int IntKind.i64 0] 24) = W at *
  generalize hg : w.heap.size = g at hb ⊢
  have hgl : w.heap.size ≤ g := by omega
  go_loopw [2] (fun i wr => ∃ k : Nat, k ≤ 3 ∧ i = .int .i64 k ∧ Blk wr g 24 (trk (sureL k)) ∧ Below w.heap.size w wr) (fun i _ => 3 - (intOf i).toNat)
  case atStart => exact ⟨0, by omega, rfl, hb, B0⟩
  case round =>
    obtain ⟨k, hk, rfl, hblk, hbel⟩ := hrel
    rcases (by omega : k = 0 ∨ k = 1 ∨ k = 2 ∨ k = 3) with rfl | rfl | rfl | rfl
    · obtain ⟨hblk, hbel⟩ := (⟨hblk, hbel⟩ : Blk wr g 24 (trk (sureL 0)) ∧ Below w.heap.size w wr)
      have hb : wr.heap[g]? = some (.cells (trk (sureL 0)) 24 (0, 0)) := hblk
      have HB := Lib.hid hb
      go_wp2_with (first | refine wpList_load_row rfl 24 _ rfl g rfl 24 (trk (sureL 0)) (0, 0) _ HB.out Tryd.underlying24 rfl (trk_info _) ?_)
      refine (P0.out _).mono ?_
      rintro e w2 ⟨rfl, hb2⟩
      have hB : w2.heap[g]? = some (.cells (trk (sureL 0)) 24 (0, 0)) := Blk.below (t := 24) (cs := trk (sureL 0)) HB.out hb2
      have HB2 := Lib.hid hB
      clear hB hb HB hblk
      go_wp2_with (first | refine wpList_store_row rfl 24 _ _ rfl g (trk (sureL 1)) rfl rfl 24 _ HB2.out (trk_info _) (by rw [trk_size, trk_size]) (trk_one _) ?_)
      have b5 : Blk (w2.setRow g (trk (sureL 1))) g 24 (trk (sureL 1)) := blk_setRow HB2.out
      go_roundw
      case rel => exact ⟨1, by omega, by go_num, b5, below_setRow (below_trans hbel hb2) (by omega) _⟩
      case measure => simp [intOf]
    · obtain ⟨hblk, hbel⟩ := (⟨hblk, hbel⟩ : Blk wr g 24 (trk (sureL 1)) ∧ Below w.heap.size w wr)
      have hb : wr.heap[g]? = some (.cells (trk (sureL 1)) 24 (0, 0)) := hblk
      have HB := Lib.hid hb
      go_wp2_with (first | refine wpList_load_row rfl 24 _ rfl g rfl 24 (trk (sureL 1)) (0, 0) _ HB.out Tryd.underlying24 rfl (trk_info _) ?_)
      refine (P1.out _).mono ?_
      rintro e w2 ⟨rfl, hb2⟩
      have hB : w2.heap[g]? = some (.cells (trk (sureL 1)) 24 (0, 0)) := Blk.below (t := 24) (cs := trk (sureL 1)) HB.out hb2
      have HB2 := Lib.hid hB
      clear hB hb HB hblk
      go_wp2_with (first | refine wpList_store_row rfl 24 _ _ rfl g (trk (sureL 2)) rfl rfl 24 _ HB2.out (trk_info _) (by rw [trk_size, trk_size]) (trk_one _) ?_)
      have b5 : Blk (w2.setRow g (trk (sureL 2))) g 24 (trk (sureL 2)) := blk_setRow HB2.out
      go_roundw
      case rel => exact ⟨2, by omega, by go_num, b5, below_setRow (below_trans hbel hb2) (by omega) _⟩
      case measure => simp [intOf]
    · obtain ⟨hblk, hbel⟩ := (⟨hblk, hbel⟩ : Blk wr g 24 (trk (sureL 2)) ∧ Below w.heap.size w wr)
      have hb : wr.heap[g]? = some (.cells (trk (sureL 2)) 24 (0, 0)) := hblk
      have HB := Lib.hid hb
      go_wp2_with (first | refine wpList_load_row rfl 24 _ rfl g rfl 24 (trk (sureL 2)) (0, 0) _ HB.out Tryd.underlying24 rfl (trk_info _) ?_)
      refine (P2.out _).mono ?_
      rintro e w2 ⟨rfl, hb2⟩
      have hB : w2.heap[g]? = some (.cells (trk (sureL 2)) 24 (0, 0)) := Blk.below (t := 24) (cs := trk (sureL 2)) HB.out hb2
      have HB2 := Lib.hid hB
      clear hB hb HB hblk
      go_wp2_with (first | refine wpList_store_row rfl 24 _ _ rfl g (trk (sureL 3)) rfl rfl 24 _ HB2.out (trk_info _) (by rw [trk_size, trk_size]) (trk_one _) ?_)
      have b5 : Blk (w2.setRow g (trk (sureL 3))) g 24 (trk (sureL 3)) := blk_setRow HB2.out
      go_roundw
      case rel => exact ⟨3, by omega, by go_num, b5, below_setRow (below_trans hbel hb2) (by omega) _⟩
      case measure => simp [intOf]
    · have hb : wr.heap[g]? = some (.cells (trk [0, 1, 0]) 24 (0, 0)) := hblk
      have HB := Lib.hid hb
      go_wp2_with (first | refine wpList_load_row rfl 24 _ rfl g rfl 24 (trk [0, 1, 0]) (0, 0) _ HB.out Tryd.underlying24 rfl (trk_info _) ?_)
      refine (PC.out _).mono ?_
      rintro e w2 ⟨rfl, hb2⟩
      have hB : Blk w2 g 24 (trk [0, 1, 0]) := Blk.below (t := 24) (cs := trk [0, 1, 0]) HB.out hb2
      have c0 : w2.cell? ⟨g, 0, none⟩ = some (.int .i64 3) := by rw [hB.cell, trk_get _ _ (by omega)]; rfl
      have zl := hB.lt
      clear hB hb HB hblk
      go_wp2
      go_ret
      exact ⟨rfl, below_trans hbel hb2⟩
def boundF (b : Int) : Int := if b < 0 then 0 else if 100 < b then 100 else b
def flapsF (x : List Int) (did : Bool) (low high : Int) : Bool := decide (19000 * boundF (if did = true then low else high) ≤ 100 * chgF x)
theorem chgF_bd (x : List Int) (hx : okT x) : 0 ≤ chgF x ∧ chgF x ≤ 22800 := by
  unfold chgF
  have hl := hx.1
  by_cases h : x.length = 0
  · rw [h]; simp [chgS]
  · have := chgS_bd x hl (x.length - 1) (by omega)
    omega
section
variable {P : Program} {ops : Array Oper} {Q : Exit → Act → World → Prop} {md : Region.Mode} {S : World → Prop}
theorem op_at {i : Nat} {oi : Oper} (h : ops.toList[i]? = some oi) : ops[i]? = some oi := by rw [← Array.getElem?_toList]; exact h
/-- The i-th operation comes up, runs, and yields v in every world that meets S. -/
theorem reg_take {i : Nat} {oi : Oper} {v : Value} {fuel : Nat} {listed : Array Bool} {a : Act} {w : World} (hi : ops.toList[i]? = some oi)
    (hs : Region.noSelect ops = true) (hf : Region.free md ops listed i = true) (hr : (Region.ready md ops listed).contains i = true)
    (hQ : ∀ c a w, Q (.panic c) (a.put oi.dst v) w → Q (.panic c) a w) (hw : Region.wanted oi (yielded ops a.tmps) = true) (hy : ∀ w, S w → (execOp a.eval oi).run P w = .ok (.value v) w) (hS : S w)
    (h : wpAnyH P md ops Q S fuel (listed.setIfInBounds i true) (a.put oi.dst v) w) : wpAnyH P md ops Q S (fuel + 1) listed a w :=
  wpAnyH_take (op_at hi) hs hf hr hQ (Or.inl ⟨hw, hy⟩) hS h
/-- The i-th operation comes up, and is left out. -/
theorem reg_skip {i : Nat} {oi : Oper} {fuel : Nat} {listed : Array Bool} {a : Act} {w : World} (hi : ops.toList[i]? = some oi)
    (hs : Region.noSelect ops = true) (hf : Region.free md ops listed i = true) (hr : (Region.ready md ops listed).contains i = true)
    (hQ : ∀ c a w, Q (.panic c) (a.put oi.dst undef) w → Q (.panic c) a w) (hw : Region.wanted oi (yielded ops a.tmps) = false) (hS : S w)
    (h : wpAnyH P md ops Q S fuel (listed.setIfInBounds i true) (a.put oi.dst undef) w) : wpAnyH P md ops Q S (fuel + 1) listed a w :=
  wpAnyH_take (op_at hi) hs hf hr hQ (Or.inr ⟨hw, rfl⟩) hS h
theorem reg_each {fuel : Nat} {listed : Array Bool} {a : Act} {w : World} {i : Nat} {o : Oper} {rs : List Nat} (ho : ops.toList[i]? = some o)
    (h : ∀ K' : Act → World → Prop, Shut (∀ a w, S w → (S w → wpAnyH P md ops Q S fuel (listed.setIfInBounds i true) a w) → K' a w) → if Region.wanted o (yielded ops a.tmps) = true then Oper.wp P o a w K' Q else K' (a.put o.dst undef) w)
    (hs : AllReadyH P md ops Q S fuel listed a w rs) : AllReadyH P md ops Q S fuel listed a w (i :: rs) := AllReadyH.cons (op_at ho) h hs
end
theorem load_guarded {P : Program} {ops : Array Oper} {rest : List Oper} {o : Oper} {a : Act} {w : World} {Q : Exit → Act → World → Prop} (hw : Region.wanted o (yielded ops a.tmps) = true) (ty : TypeId) (x : Operand) (ho : o.op = .load ty x)
    (g : Nat) (hx : a.eval x = .pointer (some ⟨g, 0, none⟩)) (t : TypeId) (cs : Array Value) (fr : Nat × Nat) (d : TypeDesc) (hg : w.heap[g]? = some (.cells cs t fr))
    (hu : P.underlying ty = some d) (hd : (match d with | .struct _ | .array _ _ => true | _ => false) = true) (hi : (P.info? ty).map (·.size) = some cs.size)
    (h : wpList P ops Q rest (a.put o.dst (.agg cs)) w) : wpList P ops Q (o :: rest) a w := by
  simp only [wpList, hw, if_true]
  exact Or.inl (wp_load_row ty x ho g hx t cs fr d hg hu hd hi h)
end Go.Proofs.YtndipldjkojofaaDoor
