/- Len, Find, New, First, Pop, walked. -/
import Derived.Test.YtfbbkeekpkbjhaaDoorT1
namespace Go.Proofs.YtfbbkeekpkbjhaaDoor
open Go.RowKit
theorem len_walk (q r : Nat) (room : Int) (A : Option Addr) (n cap : Nat) (w : World) (h : Blk w q 56 #[.int .i64 room, .slice A n cap, .map (some r)]) :
    Calls Tryd.prog 9 #[.pointer (some ⟨q, 0, none⟩)] w fun x w' => x = .returned (.int .i64 n) ∧ w' = w := by
  have c1 : w.cell? ⟨q, 1, none⟩ = some (.slice A n cap) := by rw [h.cell]; rfl
  have zq := h.lt
  clear h
  go_enter Tryd.func9, Tryd.ntmps9
  go_wp2
  go_ret
  exact ⟨rfl, rfl⟩
theorem find_some (q r : Nat) (room : Int) (g cap n i : Nat) (f : Nat → Ev) (m : Int → Int → Option Nat) (a b : Int) (w : World) (h : QRep w q r g cap room n f m) (hi : i < n) (hm : m a b = some i) :
    Calls Tryd.prog 10 #[.pointer (some ⟨q, 0, none⟩), .int .i64 a, .int .i64 b] w fun x w' => x = .returned (.tuple #[.int .i64 (f i).t, .bool true]) ∧ w' = w := by
  obtain ⟨zq, c1, c2⟩ := h.slots
  have zg := h.hr.lt
  obtain ⟨y0, _, _⟩ := h.hr.cells hi
  have hlk := run_lookT h.mr a b
  rw [hm] at hlk
  unfold keyV at hlk
  have i0 : (0 : Int) ≤ i := by omega
  have i1 : (i : Int) < n := by omega
  clear h hm
  go_enter Tryd.func10, Tryd.ntmps10
  go_wp2
  go_ret2
  exact ⟨rfl, rfl⟩
theorem find_none (q r : Nat) (room : Int) (hv : Value) (m : Int → Int → Option Nat) (a b : Int) (w : World) (h : Blk w q 56 #[.int .i64 room, hv, .map (some r)]) (hr : MapRep w r m) (hm : m a b = none) :
    Calls Tryd.prog 10 #[.pointer (some ⟨q, 0, none⟩), .int .i64 a, .int .i64 b] w fun x w' => x = .returned (.tuple #[.int .i64 0, .bool false]) ∧ w' = w := by
  have c2 : w.cell? ⟨q, 2, none⟩ = some (.map (some r)) := by rw [h.cell]; rfl
  have zq := h.lt
  have hlk := run_lookT hr a b
  rw [hm] at hlk
  unfold keyV at hlk
  clear h hr hm
  go_enter Tryd.func10, Tryd.ntmps10
  go_wp2
  go_ret2
  exact ⟨rfl, rfl⟩
theorem new_walk (n : Nat) (w : World) (h1 : 1 ≤ n) (h2 : n ≤ 65536) :
    Calls Tryd.prog 6 #[.int .i64 n] w fun x w' => x = .returned (.tuple #[.pointer (some ⟨w.heap.size + 1, 0, none⟩), .nilIface]) ∧ Blk w' (w.heap.size + 1) 56 #[.int .i64 n, .slice none 0 0, .map (some w.heap.size)] ∧ MapRep w' w.heap.size (fun _ _ => none) ∧ Below w.heap.size w w' := by
  have a1 : decide ((n : Int) < 1) = false := decide_eq_false (by omega)
  have a2 : decide (65536 < (n : Int)) = false := decide_eq_false (by omega)
  have B := below_al (below_al (Below.refl w.heap.size w) (.map #[] 0)) (.cells #[.int .i64 n, .slice none 0 0, .map (some w.heap.size)] 56)
  have hq := Blk.new1 w (.map #[] 0) 56 #[.int .i64 n, .slice none 0 0, .map (some w.heap.size)]
  have hr : MapRep ((w.alloc (.map #[] 0)).alloc (.cells #[.int .i64 n, .slice none 0 0, .map (some w.heap.size)] 56)) w.heap.size (fun _ _ => none) :=
    MapRep.alloc ⟨[], 0, heap_alloc_new w _, ⟨fun i j e e' h => by simp at h, fun a b v => by simp⟩⟩ _
  have HB := Lib.hid B; have HQ := Lib.hid hq; have HR := Lib.hid hr
  clear B hq hr
  have hmk : (Instr.makeMap 54 none).run Tryd.prog w = .ok (.map (some w.heap.size)) (w.alloc (.map #[] 0)) := by kernel_rfl
  go_enter Tryd.func6, Tryd.ntmps6
  go_wp2
  go_ret2
  exact ⟨rfl, HQ.out, HR.out, HB.out⟩
def z31 : Array Value := #[.int .i64 0, .int .i64 0, .int .i64 0]
set_option maxRecDepth 100000 in
theorem first_walk (q r : Nat) (room : Int) (g cap n : Nat) (f : Nat → Ev) (m : Int → Int → Option Nat) (w : World) (h : QRep w q r g cap room (n + 1) f m) :
    Calls Tryd.prog 17 #[.pointer (some ⟨q, 0, none⟩)] w fun x w' => x = .returned (.tuple #[.agg (evV (f 0)), .bool true]) ∧ Below w.heap.size w w' := by
  have h1 := h.below (below_al (Below.refl w.heap.size w) (.cells z31 30))
  have B1 := below_al (Below.refl w.heap.size w) (.cells z31 30)
  obtain ⟨zq, c1, c2⟩ := h1.slots
  have zg := h1.hr.lt
  obtain ⟨y0, y1, y2⟩ := h1.hr.cells (i := 0) (by omega)
  have HL := Lib.hid (len_walk q r room _ (n + 1) cap _ h1.qb)
  have hb := Blk.new w 30 z31
  have HB := Lib.hid hb
  have nn : (((n + 1 : Nat) : Int) == 0) = false := by simp; omega
  have n1 : (0 : Int) < ((n + 1 : Nat) : Int) := by omega
  unfold z31 at *
  clear h h1 hb
  go_enter Tryd.func17, Tryd.ntmps17
  go_upto_region 1 with (fail)
  generalize hW : w.alloc (Obj.cells #[Value.int IntKind.i64 0, Value.int IntKind.i64 0, Value.int IntKind.i64 0] 30) = W at *
  go_wp2_with (fail)
  refine HL.out.mono ?_
  rintro x w2 ⟨rfl, rfl⟩
  clear HL
  push_cast at nn n1
  simp only [Nat.zero_mul, Nat.zero_add] at y0 y1 y2
  generalize hg2 : w.heap.size = p at *
  have HB' : w2.heap[p]? = some (.cells #[.int .i64 0, .int .i64 0, .int .i64 0] 30 (0, 0)) := HB.out
  clear hW HB
  go_wp2_with (first | refine wpList_store_row rfl 30 _ _ rfl p (evV (f 0)) rfl rfl 30 _ HB' (by kernel_rfl) rfl (ev_one _) ?_)
  have k6 : Blk (w2.setRow p (evV (f 0))) p 30 (evV (f 0)) := setRow_heap _ _ _ _ _ _ HB'
  refine bodyPost_ret (v := .tuple #[.agg (evV (f 0)), .bool true]) (res_cell_tmp (p := 2) (u := 3) rfl _ _ p 30 _ _ rfl k6 Tryd.underlying30 rfl (by kernel_rfl)) rfl ⟨rfl, ?_⟩
  rw [hg2]
  exact below_setRow B1 (by omega) _
set_option maxRecDepth 100000 in
theorem pop_walk (q r : Nat) (room : Int) (g cap n : Nat) (f : Nat → Ev) (m : Int → Int → Option Nat) (w : World) (h : QRep w q r g cap room (n + 1) f m) (hm : MapOk (n + 1) f m) (ho : Ord (n + 1) f) (hn : n + 1 ≤ 65536) :
    Calls Tryd.prog 16 #[.pointer (some ⟨q, 0, none⟩)] w fun x w' => x = .returned (.tuple #[.agg (evV (f 0)), .bool true]) ∧ (∃ f' m', QRep w' q r g cap room n f' m' ∧ MapOk n f' m' ∧ Ord n f' ∧ Same n (swp f 0 n) f') ∧ QFr w w' q r g := by
  have B1 := below_al (Below.refl w.heap.size w) (.cells z31 30)
  have h1 := h.below B1
  have zq := h1.qb.lt
  have HL := Lib.hid (len_walk q r room _ (n + 1) cap _ h1.qb)
  have TK := Lib.hid (take_walk q r g cap n 0 room f m _ h1 hm ho (by omega) hn)
  have HB := Lib.hid (Blk.new w 30 z31)
  have F1 := Lib.hid (QFr.of_below (q := q) (r := r) (g := g) B1)
  have nn : (((n + 1 : Nat) : Int) == 0) = false := by simp; omega
  have NE := h.ne
  have zz : q < w.heap.size ∧ g < w.heap.size ∧ r < w.heap.size := ⟨h.qb.lt, h.hr.lt, h.mr.lt⟩
  unfold z31 at *
  clear h h1 hm ho B1
  go_enter Tryd.func16, Tryd.ntmps16
  go_upto_region 1 with (fail)
  generalize hW : w.alloc (Obj.cells #[Value.int IntKind.i64 0, Value.int IntKind.i64 0, Value.int IntKind.i64 0] 30) = W at *
  have zp : w.heap.size < W.heap.size := HB.out.lt
  go_wp2_with (fail)
  refine HL.out.mono ?_
  rintro x w2 ⟨rfl, rfl⟩
  clear HL hW
  push_cast at nn
  generalize hg2 : w.heap.size = p at *
  go_wp2_with (fail)
  refine TK.out.mono ?_
  rintro x w3 ⟨rfl, ⟨f3, m3, h3, hm3, ho3, hs3⟩, F3⟩
  have hb3 : w3.heap[p]? = some (.cells #[.int .i64 0, .int .i64 0, .int .i64 0] 30 (0, 0)) := (F3.block p zp (by omega) (by omega) (by omega)).trans HB.out
  have HB3 := Lib.hid hb3
  have H3 := Lib.hid h3
  have F4 := F1.out.trans F3
  clear hb3 h3 TK HB F1 F3
  go_wp2_with (first | refine wpList_store_row rfl 30 _ _ rfl p (evV (f 0)) rfl rfl 30 _ HB3.out (by kernel_rfl) rfl (ev_one _) ?_)
  have k6 : Blk (w3.setRow p (evV (f 0))) p 30 (evV (f 0)) := setRow_heap _ _ _ _ _ _ HB3.out
  have e2 : ∀ k, k ≠ p → (w3.setRow p (evV (f 0))).heap[k]? = w3.heap[k]? := fun k hk => setRow_other _ _ _ _ hk
  have hq10 : QRep (w3.setRow p (evV (f 0))) q r g cap room n f3 m3 := ⟨(e2 q (by omega)).trans H3.out.qb, H3.out.hr.of_block (e2 g (by omega)), H3.out.mr.of_block (e2 r (by omega))⟩
  refine bodyPost_ret (v := .tuple #[.agg (evV (f 0)), .bool true]) (res_cell_tmp (p := 2) (u := 3) rfl _ _ p 30 _ _ rfl k6 Tryd.underlying30 rfl (by kernel_rfl)) rfl ⟨rfl, ⟨f3, m3, hq10, hm3, ho3, hs3⟩, ?_⟩
  exact F4.fresh (by omega) _
set_option maxRecDepth 100000 in
theorem pop_none (q r : Nat) (room : Int) (A : Option Addr) (cap : Nat) (w : World) (h : Blk w q 56 #[.int .i64 room, .slice A 0 cap, .map (some r)]) :
    Calls Tryd.prog 16 #[.pointer (some ⟨q, 0, none⟩)] w fun x w' => x = .returned (.tuple #[.agg z31, .bool false]) ∧ Below w.heap.size w w' := by
  have B1 := below_al (Below.refl w.heap.size w) (.cells z31 30)
  have h1 := h.below B1
  have zq := h1.lt
  have HL := Lib.hid (len_walk q r room _ 0 cap _ h1)
  have HB := Lib.hid (Blk.new w 30 z31)
  unfold z31 at *
  clear h h1
  go_enter Tryd.func16, Tryd.ntmps16
  go_upto_region 1 with (fail)
  generalize hW : w.alloc (Obj.cells #[Value.int IntKind.i64 0, Value.int IntKind.i64 0, Value.int IntKind.i64 0] 30) = W at *
  go_wp2_with (fail)
  refine HL.out.mono ?_
  rintro x w2 ⟨rfl, rfl⟩
  clear HL hW
  generalize hg2 : w.heap.size = p at *
  go_wp2_with (first | refine wpList_store_row rfl 30 _ _ rfl p #[.int .i64 0, .int .i64 0, .int .i64 0] rfl rfl 30 _ HB.out (by kernel_rfl) rfl (by kernel_rfl) ?_)
  have k6 : Blk (w2.setRow p #[.int .i64 0, .int .i64 0, .int .i64 0]) p 30 #[.int .i64 0, .int .i64 0, .int .i64 0] := setRow_heap _ _ _ _ _ _ HB.out
  refine bodyPost_ret (v := .tuple #[.agg #[.int .i64 0, .int .i64 0, .int .i64 0], .bool false]) (res_cell_tmp (p := 2) (u := 3) rfl _ _ p 30 _ _ rfl k6 Tryd.underlying30 rfl (by kernel_rfl)) rfl ⟨rfl, ?_⟩
  rw [hg2]
  exact below_setRow B1 (by omega) _
end Go.Proofs.YtfbbkeekpkbjhaaDoor
