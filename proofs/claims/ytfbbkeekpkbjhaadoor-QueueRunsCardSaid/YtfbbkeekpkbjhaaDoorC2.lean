/- AppendSeq, Collect, SortedFunc of a slice of events; List. -/
import Derived.Test.YtfbbkeekpkbjhaaDoorC1
import Derived.Deep.AppendLies
namespace Go.Proofs.YtfbbkeekpkbjhaaDoor
open Go.RowKit
open Go.Shelf
attribute [local go_sem] Oper.semAt_some
set_option maxRecDepth 100000 in
set_option maxHeartbeats 2000000 in
/-- slices.AppendSeq of nothing and the values of a slice. -/
theorem appendSeq_in (F : Fence) (n : Nat) (h27 : F.fn 42) (h24 : F.fn 36) (hro : F.round = none) (hn : 3 ≤ n) (Bs : Nat) (sv : Value) (l : List Ev) (hlen : l.length ≤ 65536) (w : World) (hBs : Bs < w.heap.size)
    (hc : w.cell? ⟨Bs, 0, none⟩ = some sv) (hI : EvSl w sv w.heap.size l) :
    CallsIn F n Tryd.prog 42 #[.slice none 0 0, .func (.func 36) #[] #[.pointer (some ⟨Bs, 0, none⟩)]] w fun e W' => ∃ v, e = .returned v ∧ W'.ownsRow w.heap.size 30 3 v l.length (cellsE l) ∧ Below w.heap.size w W' := by
  have h1 : 1 ≤ n := by omega
  obtain ⟨i0, hi, hz0, hz1, hz2⟩ := info_parts info31
  refine callsIn_of_wp_marks Tryd.func42 rfl h27 ?_ hro
  simp only [Tryd.ntmps42, List.size_toArray, List.length_cons, List.length_nil, Nat.reduceAdd, Nat.reduceSub, Array.replicate_succ, Array.replicate_zero, List.push_toArray, List.append_toArray, List.nil_append, List.cons_append]
  gi_wp2
  have bO := Boxed.new w 49 (.slice none 0 0)
  have hB0 : Below w.heap.size w (w.alloc (.cells #[.slice none 0 0] 49)) := (Below.refl _ w).alloc (Nat.le_refl _) _
  have hI0 : EvSl (w.alloc (.cells #[.slice none 0 0] 49)) sv w.heap.size l := by
    rcases hI with h | ⟨g, cap, f, h1, h2, h3, h4⟩
    · exact .inl h
    · exact .inr ⟨g, cap, f, h1, h2, h3.of_block (Below.heap_alloc _ _ _ h2), h4⟩
  refine wpIn_rangeFunc_ownH hro h1 (gf := 36) (lb := #[.pointer (some ⟨Bs, 0, none⟩)]) rfl h24 (enters_of Tryd.func36 (by kernel_rfl) rfl)
    (values_stops F (n - 1) h24 hro (by omega) Bs w.heap.size sv l hlen (w.alloc (.cells #[.slice none 0 0] 49)) (by simp; omega) (by simp) ((hB0.cell (p := ⟨Bs, 0, none⟩) hBs).trans hc) hI0) belowK_t (belowK_b (by simp)) (Below.refl _ _) (fun _ => rfl)
    (fun pre W => (∃ v, Boxed W w.heap.size 49 v ∧ W.ownsRow w.heap.size 30 3 v pre.length (cellsE pre) ∧ True) ∧ Below w.heap.size w W)
    (fun _ _ _ => False)
    (OwnFrom.and (Own.from (holdsRow_own w.heap.size w.heap.size 49 30 3 (fun pre => pre.length) (fun pre => cellsE pre) (fun _ _ => True)) _) (ownFrom_below (Nat.le_refl _) (by simp)))
    (fun _ _ _ _ _ hs _ _ => hs)
    ⟨⟨_, bO, World.ownsRow_nil _ _ _ _, trivial⟩, hB0⟩
    (fun x a' W => ∃ Bx, w.heap.size < Bx ∧ Blk W Bx 30 #[.int .i64 x.t, .int .i64 x.k, .int .i64 x.d] ∧ a' = { tmps := #[.slice none 0 0, .func (.func 36) #[] #[.pointer (some ⟨Bs, 0, none⟩)], .pointer (some ⟨w.heap.size, 0, none⟩), undef, .slice none 0 0, .pointer (some ⟨Bx, 0, none⟩), .func (.func 36) #[] #[.pointer (some ⟨Bs, 0, none⟩)], evA x, undef, undef, undef, undef, undef], defers := [] })
    (fun x a' s X Y row hs hg hrow => by
      obtain ⟨Bx, hBx, hb, ha⟩ := hs
      exact ⟨Bx, hBx, (cells3_own 30 x _ Bx _ a' s X Y row ⟨hb, ha⟩ hg hrow).1, ha⟩) ?assign ?body ?done ?stop
  case assign =>
    rintro l pre x W K ⟨⟨v, hv, hrow, ht⟩, hB⟩ hK
    gi_wp2
    exact hK _ _ ((KeepsOthers.alloc _ _).from _) ((Below.refl _ W).alloc hB.size _) ⟨⟨v, hv.alloc _, hrow.alloc _, trivial⟩, hB.alloc hB.size _⟩ ⟨W.heap.size, hv.lt, Blk.new _ _ _, rfl⟩
  case body =>
    rintro l pre x a' W hl hr ⟨⟨v, hv, hrow, ht⟩, hB⟩ ⟨Bx, hBx, hbx, rfl⟩ hlt
    have hc := hv.cell
    have b0 : W.cell? ⟨Bx, 0, none⟩ = some (.int .i64 x.t) := by rw [hbx.cell]; rfl
    have b1 : W.cell? ⟨Bx, 1, none⟩ = some (.int .i64 x.k) := by rw [hbx.cell]; rfl
    have b2 : W.cell? ⟨Bx, 2, none⟩ = some (.int .i64 x.d) := by rw [hbx.cell]; rfl
    have HSN := Lib.hid (cellsE_snoc pre x)
    have hpl : (pre ++ [x]).length = pre.length + 1 := by simp
    have HPL := Lib.hid hpl
    have hnw := Lib.hid (World.news_of_block (cs := #[.int .i64 x.t, .int .i64 x.k, .int .i64 x.d]) (t := 30) (fr := (0, 0)) (heap_alloc_new W (.cells #[.int .i64 x.t, .int .i64 x.k, .int .i64 x.d] 30)))
    clear hpl
    gi_wp2_with (gi_at_builtin; refine wpListIn_append_own _ rfl _ _ 49 rfl w.heap.size 30 i0 (.agg #[.int .i64 0, .int .i64 0, .int .i64 0]) 3 24 Tryd.underlying49 hi hz0 hz1 hz2 rfl (by decide) _ _ _ rfl (hrow.alloc _) ⟨W.heap.size, 0, none⟩ 1 1 [.int .i64 x.t, .int .i64 x.k, .int .i64 x.d] rfl rfl hnw.out (by simp [Value.oneCell']) (by simp only [maxLen]; omega) (by omega) (by have := hB.size; simp; omega) ?_; intro v' w1 hown' hgrow _; obtain ⟨g', cap', rfl⟩ := ownsRow_succ hown'; obtain ⟨hv1, hv2, hr2, hk2, hb2⟩ := hv.appended (by decide) hrow hB.size (Nat.le_refl _) hown' hgrow; have hc1 := hv1.cell; have hf1 := hv1.frozen)
    exact ⟨hk2.from _, hb2, ⟨_, hv2, by rw [HSN.out, HPL.out]; exact hr2⟩, hB.trans hb2⟩
  case done =>
    rintro D ys W hD rfl ⟨⟨v, hv, hrow, _⟩, hB⟩ hK
    have hc := hv.cell
    gi_wp2
    refine ⟨by simp, .inl ⟨_, _, rfl, run_takeDeferred hK, ?_⟩⟩
    exact ⟨_, results_tmp rfl _ _ _, v, rfl, ownsRow_putObj hrow _ hK rfl, hB.trans (belowK_b (w := w) (Nat.le_refl _) W D _ _ (by simp at hD; omega) hK rfl rfl)⟩
  case stop =>
    rintro D c pre W _ _ h _
    exact h.elim
set_option maxHeartbeats 1000000 in
theorem collect_in (F : Fence) (n : Nat) (h22 : F.fn 34) (h27 : F.fn 42) (h24 : F.fn 36) (hro : F.round = none) (hn : 4 ≤ n) (Bs : Nat) (sv : Value) (l : List Ev) (hlen : l.length ≤ 65536) (w : World) (hBs : Bs < w.heap.size)
    (hc : w.cell? ⟨Bs, 0, none⟩ = some sv) (hI : EvSl w sv w.heap.size l) :
    CallsIn F n Tryd.prog 34 #[.func (.func 36) #[] #[.pointer (some ⟨Bs, 0, none⟩)]] w fun e W' => ∃ v, e = .returned v ∧ W'.ownsRow w.heap.size 30 3 v l.length (cellsE l) ∧ Below w.heap.size w W' := by
  have h1 : 1 ≤ n := by omega
  refine callsIn_of_wp Tryd.func34 rfl h22 ?_ hro
  simp only [Tryd.ntmps34, List.size_toArray, List.length_cons, List.length_nil, Nat.reduceAdd, Nat.reduceSub, Array.replicate_succ, Array.replicate_zero, List.push_toArray, List.append_toArray, List.nil_append, List.cons_append]
  gi_wp2_with (gi_at_call 42; refine (appendSeq_in F (n - 1) h27 h24 hro (by omega) Bs sv l hlen _ hBs hc hI).mono ?_; rintro e w' ⟨v, rfl, hrow, hb⟩)
  go_ret
  exact ⟨v, rfl, hrow, hb⟩
theorem collect_walk (Bs : Nat) (sv : Value) (l : List Ev) (hlen : l.length ≤ 65536) (w : World) (hBs : Bs < w.heap.size)
    (hc : w.cell? ⟨Bs, 0, none⟩ = some sv) (hI : EvSl w sv w.heap.size l) :
    Calls Tryd.prog 34 #[.func (.func 36) #[] #[.pointer (some ⟨Bs, 0, none⟩)]] w fun e W' => ∃ v, e = .returned v ∧ W'.ownsRow w.heap.size 30 3 v l.length (cellsE l) ∧ Below w.heap.size w W' :=
  (callsIn_wide (n := 4)).1 (collect_in Fence.wide 4 trivial trivial trivial rfl (by omega) Bs sv l hlen w hBs hc hI)
theorem values_walk (a : Option Addr) (len cap : Nat) (w : World) :
    Calls Tryd.prog 27 #[.slice a len cap] w fun e w' => e = .returned (.func (.func 36) #[] #[.pointer (some ⟨w.heap.size, 0, none⟩)]) ∧ w' = w.alloc (.cells #[.slice a len cap] 49) := by
  go_enter Tryd.func27, Tryd.ntmps27
  go_wp2
  go_ret
  exact ⟨rfl, rfl⟩
end Go.Proofs.YtfbbkeekpkbjhaaDoor
