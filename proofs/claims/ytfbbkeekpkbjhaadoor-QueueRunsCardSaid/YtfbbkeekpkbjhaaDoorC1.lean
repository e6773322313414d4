/- Values of a slice of events, for whatever loop body. -/
import Derived.Test.YtfbbkeekpkbjhaaDoorR1
import Derived.RangeFuncNested
import Derived.RangeFuncBound
import Derived.RangeFuncCalls
import Derived.RangeFuncLeaves
import Derived.RangeFuncBox
import Derived.Shelf.Abstract
import Derived.Shelf.RegionOpen
import Derived.OwnWalkIn
import Derived.TacticsInMore
import Derived.LoopNIn
import Derived.LoopIn
import Derived.Maps.AppendAt
namespace Go.Proofs.YtfbbkeekpkbjhaaDoor
open Go.RowKit
open Go.Shelf
attribute [local go_sem] Oper.semAt_some
def encE3 (e : Ev) : List Value := [.int .i64 e.t, .int .i64 e.k, .int .i64 e.d]
def cellsE (l : List Ev) : List Value := l.flatMap encE3
theorem cellsE_len (l : List Ev) : (cellsE l).length = l.length * 3 := by
  unfold cellsE
  induction l with
  | nil => rfl
  | cons e r ih => rw [List.flatMap_cons, List.length_append, ih]; simp [encE3]; omega
theorem cellsE_snoc (l : List Ev) (e : Ev) : cellsE (l ++ [e]) = cellsE l ++ [.int .i64 e.t, .int .i64 e.k, .int .i64 e.d] := by unfold cellsE encE3; simp
/-- The first k events of a heap's block. -/
def evs (f : Nat → Ev) (k : Nat) : List Ev := (List.range k).map f
theorem evs_succ (f : Nat → Ev) (k : Nat) : evs f (k + 1) = evs f k ++ [f k] := by unfold evs; rw [List.range_succ, List.map_append]; rfl
theorem evs_len (f : Nat → Ev) (k : Nat) : (evs f k).length = k := by unfold evs; simp
abbrev evA (x : Ev) : Value := .agg #[.int .i64 x.t, .int .i64 x.k, .int .i64 x.d]
set_option maxRecDepth 100000 in
set_option maxHeartbeats 2000000 in
theorem values1_in (F : Fence) (n : Nat) (h24 : F.fn 36) (hro : F.round = none) (hn : 1 ≤ n) (l Bs n₀ g cap len : Nat) (f : Nat → Ev) (hlen : len ≤ 65536) (hb : g < n₀) (J Jx : List Ev → World → Prop)
    (hY : ∀ pre x W, J pre W → pre.length < len → YieldAt F (n - 1) Tryd.prog l #[evA x] W fun e W' =>
      (e = .returned (.bool true) ∧ J (pre ++ [x]) W' ∧ Below n₀ W W') ∨ (e = .returned (.bool false) ∧ Jx (pre ++ [x]) W'))
    (W : World) (hn0 : n₀ ≤ W.heap.size) (hJ : AbidesFrom W.heap.size J) (hBs : W.cell? ⟨Bs, 0, none⟩ = some (.slice (some ⟨g, 0, none⟩) len cap)) (hc : HeapRep W g cap len f) (h0 : J [] W) :
    CallsIn F n Tryd.prog 36 #[.func (.yield l) #[] #[], .pointer (some ⟨Bs, 0, none⟩)] W fun e W' => (∃ v, e = .returned v) ∧
      ((∃ ys, ys = evs f len ∧ J ys W') ∨ (∃ pre, (∃ k, k ≤ len ∧ pre = evs f k) ∧ Jx pre W')) := by
  refine callsIn_of_wp Tryd.func36 rfl h24 ?_ hro
  simp only [Tryd.ntmps36, List.size_toArray, List.length_cons, List.length_nil, Nat.reduceAdd, Nat.reduceSub, Array.replicate_succ, Array.replicate_zero, List.push_toArray, List.append_toArray, List.nil_append, List.cons_append]
  have HH := Lib.hid hc
  clear hc
  gi_wp2
  gi_loopw [7] (fun i wr => ∃ k : Nat, k ≤ len ∧ i = .int .i64 k ∧ J (evs f k) wr ∧ Below n₀ W wr)
    (fun i _ => len - (intOf i).toNat)
  case atStart => exact ⟨0, Nat.zero_le _, rfl, h0, Below.refl _ _⟩
  case round =>
    obtain ⟨k, hk, rfl, hJs, hnx⟩ := hrel
    by_cases hlt : k < len
    · have hh := HH.out.of_block (hnx.block g hb)
      obtain ⟨c0, c1, c2⟩ := hh.cells hlt
      have hJ2 : J (evs f k) (wr.alloc (.cells #[.int .i64 (f k).t, .int .i64 (f k).k, .int .i64 (f k).d] 30)) := hJ _ wr _ none hJs (World.grownBy_alloc _ _ _) (fun r e => by cases e)
      have hB2 : Below n₀ W (wr.alloc (.cells #[.int .i64 (f k).t, .int .i64 (f k).k, .int .i64 (f k).d] 30)) := hnx.alloc (Nat.le_trans hn0 hnx.size) _
      obtain ⟨fn, tmps, assign, body, hy, hR⟩ := hY _ (f k) _ hJ2 (by rw [evs_len]; exact hlt)
      have HS := Lib.hid (evs_succ f k)
      clear hh
      gi_wp2
      refine hR.mono ?_
      rintro e W3 (⟨rfl, hJ3, hk3⟩ | ⟨rfl, hJx3⟩)
      · gi_wp2
        go_roundw
        case rel => exact ⟨k + 1, by omega, by simp, by rw [HS.out]; exact hJ3, hB2.trans hk3⟩
        case measure => simp [intOf]; omega
      · gi_wp2
        refine bodyPost_ret (results_none rfl _ _ _) rfl ?_
        exact ⟨⟨_, rfl⟩, .inr ⟨_, ⟨k + 1, by omega, HS.out.symm⟩, hJx3⟩⟩
    · obtain rfl : k = len := by omega
      gi_wp2
      go_end0
      exact ⟨⟨_, rfl⟩, .inl ⟨_, rfl, hJs⟩⟩
set_option maxRecDepth 100000 in
set_option maxHeartbeats 1000000 in
theorem values1_nil_in (F : Fence) (n : Nat) (h24 : F.fn 36) (hro : F.round = none) (l Bs : Nat) (J : List Ev → World → Prop) (W : World) (hBs : W.cell? ⟨Bs, 0, none⟩ = some (.slice none 0 0)) (h0 : J [] W) :
    CallsIn F n Tryd.prog 36 #[.func (.yield l) #[] #[], .pointer (some ⟨Bs, 0, none⟩)] W fun e W' => (∃ v, e = .returned v) ∧ J [] W' := by
  refine callsIn_of_wp Tryd.func36 rfl h24 ?_ hro
  simp only [Tryd.ntmps36, List.size_toArray, List.length_cons, List.length_nil, Nat.reduceAdd, Nat.reduceSub, Array.replicate_succ, Array.replicate_zero, List.push_toArray, List.append_toArray, List.nil_append, List.cons_append]
  gi_wp2
  gi_loopw [7] (fun i wr => i = .int .i64 0 ∧ J [] wr) (fun _ _ => 0)
  case atStart => exact ⟨rfl, h0⟩
  case round =>
    obtain ⟨rfl, hJs⟩ := hrel
    gi_wp2
    go_end0
    exact ⟨⟨_, rfl⟩, hJs⟩
/-- A slice of events that is read: nil, or the heap's block. -/
def EvSl (W : World) (sv : Value) (n₀ : Nat) (l : List Ev) : Prop :=
  (sv = .slice none 0 0 ∧ l = []) ∨ ∃ g cap f, sv = .slice (some ⟨g, 0, none⟩) l.length cap ∧ g < n₀ ∧ HeapRep W g cap l.length f ∧ l = evs f l.length
theorem values_stops (F : Fence) (n : Nat) (h24 : F.fn 36) (hro : F.round = none) (hn : 1 ≤ n) (Bs n₀ : Nat) (sv : Value) (l : List Ev) (hlen : l.length ≤ 65536) (w : World) (hBs : Bs < w.heap.size) (hn₀ : n₀ ≤ w.heap.size)
    (hc : w.cell? ⟨Bs, 0, none⟩ = some sv) (hI : EvSl w sv n₀ l) :
    SeqStopsK F n Tryd.prog 36 #[.pointer (some ⟨Bs, 0, none⟩)] (fun x : Ev => #[evA x]) (Below n₀) (fun ys => ys = l) (fun _ => True) l.length w := fun lp J Jx W hW hJ _ hY h0 => by
  have hc' := (hW.cell (p := ⟨Bs, 0, none⟩) hBs).trans hc
  rcases hI with ⟨rfl, rfl⟩ | ⟨g, cap, f, rfl, hb, hh, hl⟩
  · exact (values1_nil_in F n h24 hro lp Bs J W hc' h0).mono fun e W' ⟨he, hj⟩ => ⟨he, .inl ⟨_, rfl, hj⟩⟩
  · refine (values1_in F n h24 hro hn lp Bs n₀ g cap l.length f hlen hb J Jx hY W (Nat.le_trans hn₀ hW.size) hJ hc' (hh.of_block (hW.block g (by omega))) h0).mono ?_
    rintro e W' ⟨he, ⟨ys, rfl, hj⟩ | ⟨pre, _, hj⟩⟩
    · exact ⟨he, .inl ⟨_, hl.symm, hj⟩⟩
    · exact ⟨he, .inr ⟨_, trivial, hj⟩⟩
theorem info31 : (Tryd.prog.info? 30).map (fun i => (i.zero, i.size, i.bytes)) = some (some (.agg #[.int .i64 0, .int .i64 0, .int .i64 0]), 3, 24) := by kernel_rfl
theorem cells3_own (t : TypeId) (x : Ev) (B Bx : Nat) (a a' : Act) : OwnFrom B (fun (_ : Unit) W => Blk W Bx t #[.int .i64 x.t, .int .i64 x.k, .int .i64 x.d] ∧ a' = a) := fun s X Y row hs hg hrow =>
  ⟨(hg.block Bx hs.1.lt (fun e' => by obtain ⟨_, o, ho, hc⟩ := hrow Bx e'.symm; rw [show X.heap[Bx]? = _ from hs.1] at ho; cases ho; cases hc)).trans hs.1, hs.2⟩
end Go.Proofs.YtfbbkeekpkbjhaaDoor
