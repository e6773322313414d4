/- The law FlapTracks, walked: a track that may be, and one that may not. -/
import Derived.Test.YtndipldjkojofaaDoorEq
import Derived.Test.YtndipldjkojofaaDoorNum
import Derived.Deep.QuietTactic
import Derived.BigQuiet
namespace Go.Proofs.YtndipldjkojofaaDoor
open Go.RowKit
set_option linter.unusedSimpArgs false in
set_option linter.unusedVariables false in
set_option maxRecDepth 100000 in
set_option maxHeartbeats 4000000 in
theorem tracks_bad (n : Int) (l : Nat → Int) (s : Int) (w : World) (hg : ErrType w) (hm : ¬ mayP n l) :
    Calls Tryd.prog 3 #[.int .i64 n, .agg (ar l), .int .i64 s] w fun e w' => e = .returned (.bool true) ∧ Below w.heap.size w w' := by
  have hb4 := Blk.new w 22 (ar l)
  have B0 := below_al (Below.refl w.heap.size w) (.cells (ar l) 22)
  have HT := Lib.hid (rfl : tk n l = tk n l)
  have PN := Lib.hid (fun w => push_no n l s w hm)
  have CB := Lib.hid (fun w => check_bad n l w hm)
  have GB := Lib.hid (fun w => change_bad n l w hm)
  unfold eA at CB
  have MW := Lib.hid (fun w => may_walk n l false (by simp [hm]) w)
  have HG := Lib.hid hg
  clear hg
  go_enter Tryd.func3, Tryd.ntmps3
  go_upto_region 1 with (fail)
  generalize hW : w.alloc (Obj.cells (ar l) 22) = W at *
  generalize hgg : w.heap.size = g at hb4 ⊢
  have hgl : w.heap.size ≤ g := by omega
  have hbW : W.heap[g]? = some (.cells (ar l) 22 (0, 0)) := hb4
  have HAR := Lib.hid hbW
  have zl := hb4.lt
  clear hbW hb4 hW
  go_upto_region 2 with (first | refine wpList_load_row rfl 22 _ rfl (g) rfl 22 (ar l) (0, 0) _ HAR.out Tryd.underlying22 rfl (ar_info _) ?_ | refine load_guarded (by rfl) 22 _ rfl (g) rfl 22 (ar l) (0, 0) _ HAR.out Tryd.underlying22 rfl (ar_info _) ?_ | refine build_law rfl _ _ rfl n l rfl rfl ?_ | refine wpList_store_row rfl 24 _ _ rfl W.heap.size (tk n l) rfl rfl 24 #[Value.int IntKind.i64 0, Value.int IntKind.i64 0, Value.int IntKind.i64 0, Value.int IntKind.i64 0, Value.int IntKind.i64 0, Value.int IntKind.i64 0, Value.int IntKind.i64 0, Value.int IntKind.i64 0, Value.int IntKind.i64 0, Value.int IntKind.i64 0, Value.int IntKind.i64 0, Value.int IntKind.i64 0, Value.int IntKind.i64 0, Value.int IntKind.i64 0, Value.int IntKind.i64 0, Value.int IntKind.i64 0, Value.int IntKind.i64 0, Value.int IntKind.i64 0, Value.int IntKind.i64 0, Value.int IntKind.i64 0, Value.int IntKind.i64 0, Value.int IntKind.i64 0] (heap_alloc_new W _) (tk_info _ _) (by rw [tk_size]; rfl) (tk_one _ _) ?_)
  have b7 : Blk ((W.alloc (Obj.cells #[Value.int IntKind.i64 0, Value.int IntKind.i64 0, Value.int IntKind.i64 0, Value.int IntKind.i64 0, Value.int IntKind.i64 0, Value.int IntKind.i64 0, Value.int IntKind.i64 0, Value.int IntKind.i64 0, Value.int IntKind.i64 0, Value.int IntKind.i64 0, Value.int IntKind.i64 0, Value.int IntKind.i64 0, Value.int IntKind.i64 0, Value.int IntKind.i64 0, Value.int IntKind.i64 0, Value.int IntKind.i64 0, Value.int IntKind.i64 0, Value.int IntKind.i64 0, Value.int IntKind.i64 0, Value.int IntKind.i64 0, Value.int IntKind.i64 0, Value.int IntKind.i64 0] 24)).setRow W.heap.size (tk n l)) W.heap.size 24 (tk n l) := by rw [← HT.out]; exact blk_setRow (Blk.new W 24 _)
  have b4 : Blk ((W.alloc (Obj.cells #[Value.int IntKind.i64 0, Value.int IntKind.i64 0, Value.int IntKind.i64 0, Value.int IntKind.i64 0, Value.int IntKind.i64 0, Value.int IntKind.i64 0, Value.int IntKind.i64 0, Value.int IntKind.i64 0, Value.int IntKind.i64 0, Value.int IntKind.i64 0, Value.int IntKind.i64 0, Value.int IntKind.i64 0, Value.int IntKind.i64 0, Value.int IntKind.i64 0, Value.int IntKind.i64 0, Value.int IntKind.i64 0, Value.int IntKind.i64 0, Value.int IntKind.i64 0, Value.int IntKind.i64 0, Value.int IntKind.i64 0, Value.int IntKind.i64 0, Value.int IntKind.i64 0] 24)).setRow W.heap.size (tk n l)) g 22 (ar l) := (setRow_other _ W.heap.size g _ (by omega)).trans (Blk.alloc HAR.out _)
  have B1 : Below w.heap.size w ((W.alloc (Obj.cells #[Value.int IntKind.i64 0, Value.int IntKind.i64 0, Value.int IntKind.i64 0, Value.int IntKind.i64 0, Value.int IntKind.i64 0, Value.int IntKind.i64 0, Value.int IntKind.i64 0, Value.int IntKind.i64 0, Value.int IntKind.i64 0, Value.int IntKind.i64 0, Value.int IntKind.i64 0, Value.int IntKind.i64 0, Value.int IntKind.i64 0, Value.int IntKind.i64 0, Value.int IntKind.i64 0, Value.int IntKind.i64 0, Value.int IntKind.i64 0, Value.int IntKind.i64 0, Value.int IntKind.i64 0, Value.int IntKind.i64 0, Value.int IntKind.i64 0, Value.int IntKind.i64 0] 24)).setRow W.heap.size (tk n l)) := below_setRow (below_al B0 _) (by omega) _
  have hne : g ≠ W.heap.size := by omega
  generalize (W.alloc (Obj.cells #[Value.int IntKind.i64 0, Value.int IntKind.i64 0, Value.int IntKind.i64 0, Value.int IntKind.i64 0, Value.int IntKind.i64 0, Value.int IntKind.i64 0, Value.int IntKind.i64 0, Value.int IntKind.i64 0, Value.int IntKind.i64 0, Value.int IntKind.i64 0, Value.int IntKind.i64 0, Value.int IntKind.i64 0, Value.int IntKind.i64 0, Value.int IntKind.i64 0, Value.int IntKind.i64 0, Value.int IntKind.i64 0, Value.int IntKind.i64 0, Value.int IntKind.i64 0, Value.int IntKind.i64 0, Value.int IntKind.i64 0, Value.int IntKind.i64 0, Value.int IntKind.i64 0] 24)).setRow W.heap.size (tk n l) = W1 at *
  generalize W.heap.size = g7 at *
  clear B0 zl HAR
  unfold Blk at b7 b4
  have H7 := Lib.hid b7; have H4 := Lib.hid b4
  have z7 := Blk.lt b7
  have z4 := Blk.lt b4
  clear b7 b4
  go_wp2_with (first | refine wpList_load_row rfl 24 _ rfl (g7) rfl 24 (tk n l) (0, 0) _ H7.out Tryd.underlying24 rfl (tk_info _ _) ?_ | refine load_guarded (by rfl) 24 _ rfl (g7) rfl 24 (tk n l) (0, 0) _ H7.out Tryd.underlying24 rfl (tk_info _ _) ?_)
  refine (PN.out _).mono ?_
  rintro e w2 ⟨rfl, hb2⟩
  have b7 : Blk w2 g7 24 (tk n l) := Blk.below (t := 24) (cs := tk n l) H7.out hb2
  have b4 : Blk w2 g 22 (ar l) := Blk.below (t := 22) (cs := ar l) H4.out hb2
  have B2 := below_trans B1 hb2
  have z72 := b7.lt
  have z42 := b4.lt
  go_upto_region 3 with (first | refine wpList_store_row rfl 24 _ _ rfl w2.heap.size (tk n l) rfl rfl 24 #[Value.int IntKind.i64 0, Value.int IntKind.i64 0, Value.int IntKind.i64 0, Value.int IntKind.i64 0, Value.int IntKind.i64 0, Value.int IntKind.i64 0, Value.int IntKind.i64 0, Value.int IntKind.i64 0, Value.int IntKind.i64 0, Value.int IntKind.i64 0, Value.int IntKind.i64 0, Value.int IntKind.i64 0, Value.int IntKind.i64 0, Value.int IntKind.i64 0, Value.int IntKind.i64 0, Value.int IntKind.i64 0, Value.int IntKind.i64 0, Value.int IntKind.i64 0, Value.int IntKind.i64 0, Value.int IntKind.i64 0, Value.int IntKind.i64 0, Value.int IntKind.i64 0] (heap_alloc_new w2 _) (tk_info _ _) (by rw [tk_size]; rfl) (tk_one _ _) ?_)
  have c8 : Blk ((w2.alloc (Obj.cells #[Value.int IntKind.i64 0, Value.int IntKind.i64 0, Value.int IntKind.i64 0, Value.int IntKind.i64 0, Value.int IntKind.i64 0, Value.int IntKind.i64 0, Value.int IntKind.i64 0, Value.int IntKind.i64 0, Value.int IntKind.i64 0, Value.int IntKind.i64 0, Value.int IntKind.i64 0, Value.int IntKind.i64 0, Value.int IntKind.i64 0, Value.int IntKind.i64 0, Value.int IntKind.i64 0, Value.int IntKind.i64 0, Value.int IntKind.i64 0, Value.int IntKind.i64 0, Value.int IntKind.i64 0, Value.int IntKind.i64 0, Value.int IntKind.i64 0, Value.int IntKind.i64 0] 24)).setRow w2.heap.size (tk n l)) w2.heap.size 24 (tk n l) := blk_setRow (Blk.new w2 24 _)
  have c7 : Blk ((w2.alloc (Obj.cells #[Value.int IntKind.i64 0, Value.int IntKind.i64 0, Value.int IntKind.i64 0, Value.int IntKind.i64 0, Value.int IntKind.i64 0, Value.int IntKind.i64 0, Value.int IntKind.i64 0, Value.int IntKind.i64 0, Value.int IntKind.i64 0, Value.int IntKind.i64 0, Value.int IntKind.i64 0, Value.int IntKind.i64 0, Value.int IntKind.i64 0, Value.int IntKind.i64 0, Value.int IntKind.i64 0, Value.int IntKind.i64 0, Value.int IntKind.i64 0, Value.int IntKind.i64 0, Value.int IntKind.i64 0, Value.int IntKind.i64 0, Value.int IntKind.i64 0, Value.int IntKind.i64 0] 24)).setRow w2.heap.size (tk n l)) g7 24 (tk n l) := (setRow_other _ w2.heap.size g7 _ (by omega)).trans (Blk.alloc b7 _)
  have c4 : Blk ((w2.alloc (Obj.cells #[Value.int IntKind.i64 0, Value.int IntKind.i64 0, Value.int IntKind.i64 0, Value.int IntKind.i64 0, Value.int IntKind.i64 0, Value.int IntKind.i64 0, Value.int IntKind.i64 0, Value.int IntKind.i64 0, Value.int IntKind.i64 0, Value.int IntKind.i64 0, Value.int IntKind.i64 0, Value.int IntKind.i64 0, Value.int IntKind.i64 0, Value.int IntKind.i64 0, Value.int IntKind.i64 0, Value.int IntKind.i64 0, Value.int IntKind.i64 0, Value.int IntKind.i64 0, Value.int IntKind.i64 0, Value.int IntKind.i64 0, Value.int IntKind.i64 0, Value.int IntKind.i64 0] 24)).setRow w2.heap.size (tk n l)) g 22 (ar l) := (setRow_other _ w2.heap.size g _ (by omega)).trans (Blk.alloc b4 _)
  have B3 : Below w.heap.size w ((w2.alloc (Obj.cells #[Value.int IntKind.i64 0, Value.int IntKind.i64 0, Value.int IntKind.i64 0, Value.int IntKind.i64 0, Value.int IntKind.i64 0, Value.int IntKind.i64 0, Value.int IntKind.i64 0, Value.int IntKind.i64 0, Value.int IntKind.i64 0, Value.int IntKind.i64 0, Value.int IntKind.i64 0, Value.int IntKind.i64 0, Value.int IntKind.i64 0, Value.int IntKind.i64 0, Value.int IntKind.i64 0, Value.int IntKind.i64 0, Value.int IntKind.i64 0, Value.int IntKind.i64 0, Value.int IntKind.i64 0, Value.int IntKind.i64 0, Value.int IntKind.i64 0, Value.int IntKind.i64 0] 24)).setRow w2.heap.size (tk n l)) := below_setRow (below_al B2 _) (by have := B2.size; omega) _
  generalize (w2.alloc (Obj.cells #[Value.int IntKind.i64 0, Value.int IntKind.i64 0, Value.int IntKind.i64 0, Value.int IntKind.i64 0, Value.int IntKind.i64 0, Value.int IntKind.i64 0, Value.int IntKind.i64 0, Value.int IntKind.i64 0, Value.int IntKind.i64 0, Value.int IntKind.i64 0, Value.int IntKind.i64 0, Value.int IntKind.i64 0, Value.int IntKind.i64 0, Value.int IntKind.i64 0, Value.int IntKind.i64 0, Value.int IntKind.i64 0, Value.int IntKind.i64 0, Value.int IntKind.i64 0, Value.int IntKind.i64 0, Value.int IntKind.i64 0, Value.int IntKind.i64 0, Value.int IntKind.i64 0] 24)).setRow w2.heap.size (tk n l) = W3 at *
  generalize w2.heap.size = g8 at *
  clear B1 B2 hb2 b7 b4 H7 H4 z72 z42 z7 z4
  unfold Blk at c7 c8 c4
  have H7 := Lib.hid c7; have H8 := Lib.hid c8; have H4 := Lib.hid c4
  clear c7 c8 c4
  go_wp2_with (first | refine wpList_load_row rfl 22 _ rfl (g) rfl 22 (ar l) (0, 0) _ H4.out Tryd.underlying22 rfl (ar_info _) ?_ | refine load_guarded (by rfl) 22 _ rfl (g) rfl 22 (ar l) (0, 0) _ H4.out Tryd.underlying22 rfl (ar_info _) ?_)
  refine (MW.out _).mono ?_
  rintro e w4 ⟨rfl, hb4⟩
  have d7 : Blk w4 g7 24 (tk n l) := Blk.below (t := 24) (cs := tk n l) H7.out hb4
  have d8 : Blk w4 g8 24 (tk n l) := Blk.below (t := 24) (cs := tk n l) H8.out hb4
  have d4 : Blk w4 g 22 (ar l) := Blk.below (t := 22) (cs := ar l) H4.out hb4
  have B4 := below_trans B3 hb4
  clear B3 hb4 H7 H8 H4 PN MW HT
  unfold Blk at d7 d8
  have H7 := Lib.hid d7; have H8 := Lib.hid d8
  clear d7 d8 d4
  go_wp2_with (first | refine wpList_load_row rfl 24 _ rfl (g7) rfl 24 (tk n l) (0, 0) _ H7.out Tryd.underlying24 rfl (tk_info _ _) ?_ | refine load_guarded (by rfl) 24 _ rfl (g7) rfl 24 (tk n l) (0, 0) _ H7.out Tryd.underlying24 rfl (tk_info _ _) ?_)
  refine (CB.out _).mono ?_
  rintro e w5 ⟨rfl, hb5⟩
  have B5 := below_trans B4 hb5
  have hg5 := HG.out.below B5
  have d7 : w5.heap[g7]? = some (.cells (tk n l) 24 (0, 0)) := Blk.below (t := 24) (cs := tk n l) H7.out hb5
  have d8 : w5.heap[g8]? = some (.cells (tk n l) 24 (0, 0)) := Blk.below (t := 24) (cs := tk n l) H8.out hb5
  have J7 := Lib.hid d7; have J8 := Lib.hid d8
  clear d7 d8 H7 H8 hb5 B4 CB
  go_wp2_with (fail)
  refine (num_hit 1 _ hg5).mono ?_
  rintro e w6 ⟨rfl, hb6⟩
  have B6 := below_trans B5 hb6
  have d7 : w6.heap[g7]? = some (.cells (tk n l) 24 (0, 0)) := Blk.below (t := 24) (cs := tk n l) J7.out hb6
  have d8 : w6.heap[g8]? = some (.cells (tk n l) 24 (0, 0)) := Blk.below (t := 24) (cs := tk n l) J8.out hb6
  have H7 := Lib.hid d7; have H8 := Lib.hid d8
  clear d7 d8 J7 J8 hb6 hg5 B5
  go_wp2_with (first | refine wpList_load_row rfl 24 _ rfl (g8) rfl 24 (tk n l) (0, 0) _ H8.out Tryd.underlying24 rfl (tk_info _ _) ?_ | refine load_guarded (by rfl) 24 _ rfl (g8) rfl 24 (tk n l) (0, 0) _ H8.out Tryd.underlying24 rfl (tk_info _ _) ?_ | refine wpList_load_row rfl 24 _ rfl (g7) rfl 24 (tk n l) (0, 0) _ H7.out Tryd.underlying24 rfl (tk_info _ _) ?_ | refine load_guarded (by rfl) 24 _ rfl (g7) rfl 24 (tk n l) (0, 0) _ H7.out Tryd.underlying24 rfl (tk_info _ _) ?_ | refine eql_guarded (by rfl) _ _ _ rfl n l rfl rfl ?_)
  refine (GB.out _).mono ?_
  rintro e w7 ⟨rfl, hb7⟩
  have B7 := below_trans B6 hb7
  clear hb7 B6 H7 H8
  go_wp2_with (fail)
  refine (sure_walk _).mono ?_
  rintro e w8 ⟨rfl, hb8⟩
  go_wp2
  go_ret
  exact ⟨rfl, below_trans B7 hb8⟩
def TS (w : World) (g g7 g8 m m2 : Nat) (x q : List Int) (A2 : Option Addr) (w' : World) : Prop := w'.heap[g7]? = some (.cells (trk x) 24 (0, 0)) ∧ w'.heap[g8]? = some (.cells (trk q) 24 (0, 0)) ∧ w'.cell? ⟨g8, 0, none⟩ = some (.int .i64 m2) ∧ g < w'.heap.size ∧ g7 < w'.heap.size ∧ g8 < w'.heap.size ∧ Ints w' (some ⟨g, 0, none⟩) m x ∧ Ints w' A2 m2 q ∧ Below w.heap.size w w'
theorem ts_below {w w1 w2 : World} {g g7 g8 m m2 : Nat} {x q : List Int} {A2 : Option Addr} (h : TS w g g7 g8 m m2 x q A2 w1) (k : Below w1.heap.size w1 w2) : TS w g g7 g8 m m2 x q A2 w2 := by
  obtain ⟨a1, a2, a3, a4, a5, a6, a7, a8, a9⟩ := h
  have e1 : Blk w1 g7 24 (trk x) := a1
  have e2 : Blk w1 g8 24 (trk q) := a2
  have f2 := e2.below k
  refine ⟨e1.below k, f2, ?_, by have := k.size; omega, by have := k.size; omega, by have := k.size; omega, a7.below k, a8.below k, below_trans a9 k⟩
  rw [f2.cell, ← e2.cell]; exact a3
theorem ts_drew {w w1 : World} {g g7 g8 m m2 : Nat} {x q : List Int} {A2 : Option Addr} (h : TS w g g7 g8 m m2 x q A2 w1) : TS w g g7 g8 m m2 x q A2 w1.drew := ts_below h (below_drewN (Below.refl _ _) 1)
set_option linter.unusedSimpArgs false in
set_option linter.unusedVariables false in
set_option maxRecDepth 100000 in
set_option maxHeartbeats 4000000 in
theorem tracks_good (m : Nat) (l : Nat → Int) (s : Int) (w : World) (hg : ErrType w) (x : List Int) (hml : x.length = m) (hx : okT x) (htk : tk m l = trk x) (hxl : ∀ j, j < m → x.getD j 0 = l j) (hm : mayP m l) :
    Calls Tryd.prog 3 #[.int .i64 m, .agg (ar l), .int .i64 s] w fun e w' => e = .returned (.bool true) ∧ Below w.heap.size w w' := by
  have hb4 := Blk.new w 22 (ar l)
  have B0 := below_al (Below.refl w.heap.size w) (.cells (ar l) 22)
  have HT := Lib.hid htk
  have HML := Lib.hid hml
  have PN := Lib.hid (fun w => push_any x s w hx)
  have CK := Lib.hid (fun w => check_ok x w hx)
  have GK := Lib.hid (fun w => change_walk x w hx)
  have HO := Lib.hid (okT_pushA (s := s) hx)
  have CQ := Lib.hid (fun w => check_ok (pushA x s) w HO.out)
  have IA := Lib.hid (fun (w : World) (g : Nat) (h : Blk w g 22 (ar l)) => ints_ar h hx (hml ▸ hxl))
  have RP := Lib.hid (fun ad w h => rpush_ints ad 21 x s w h hx)
  have RC := Lib.hid (fun ad w h => rchange_ints ad 21 x w h hx.1)
  rw [hml] at RC RP IA
  have hl21 : m ≤ 21 := by rw [← hml]; exact hx.1
  clear hx hxl htk hml
  generalize hq : pushA x s = q at *
  clear hq
  have MW := Lib.hid (fun w => may_walk m l true (by simp [hm]) w)
  have HG := Lib.hid hg
  clear hg
  go_enter Tryd.func3, Tryd.ntmps3
  go_upto_region 1 with (fail)
  generalize hW : w.alloc (Obj.cells (ar l) 22) = W at *
  generalize hgg : w.heap.size = g at hb4 ⊢
  have hgl : w.heap.size ≤ g := by omega
  have hbW : W.heap[g]? = some (.cells (ar l) 22 (0, 0)) := hb4
  have HAR := Lib.hid hbW
  have zl := hb4.lt
  clear hbW hb4 hW
  go_upto_region 2 with (first | refine wpList_load_row rfl 22 _ rfl (g) rfl 22 (ar l) (0, 0) _ HAR.out Tryd.underlying22 rfl (ar_info _) ?_ | refine load_guarded (by rfl) 22 _ rfl (g) rfl 22 (ar l) (0, 0) _ HAR.out Tryd.underlying22 rfl (ar_info _) ?_ | refine build_law rfl _ _ rfl m l rfl rfl ?_ | refine wpList_store_row rfl 24 _ _ rfl W.heap.size (tk m l) rfl rfl 24 #[Value.int IntKind.i64 0, Value.int IntKind.i64 0, Value.int IntKind.i64 0, Value.int IntKind.i64 0, Value.int IntKind.i64 0, Value.int IntKind.i64 0, Value.int IntKind.i64 0, Value.int IntKind.i64 0, Value.int IntKind.i64 0, Value.int IntKind.i64 0, Value.int IntKind.i64 0, Value.int IntKind.i64 0, Value.int IntKind.i64 0, Value.int IntKind.i64 0, Value.int IntKind.i64 0, Value.int IntKind.i64 0, Value.int IntKind.i64 0, Value.int IntKind.i64 0, Value.int IntKind.i64 0, Value.int IntKind.i64 0, Value.int IntKind.i64 0, Value.int IntKind.i64 0] (heap_alloc_new W _) (tk_info _ _) (by rw [tk_size]; rfl) (tk_one _ _) ?_)
  have b7 : Blk ((W.alloc (Obj.cells #[Value.int IntKind.i64 0, Value.int IntKind.i64 0, Value.int IntKind.i64 0, Value.int IntKind.i64 0, Value.int IntKind.i64 0, Value.int IntKind.i64 0, Value.int IntKind.i64 0, Value.int IntKind.i64 0, Value.int IntKind.i64 0, Value.int IntKind.i64 0, Value.int IntKind.i64 0, Value.int IntKind.i64 0, Value.int IntKind.i64 0, Value.int IntKind.i64 0, Value.int IntKind.i64 0, Value.int IntKind.i64 0, Value.int IntKind.i64 0, Value.int IntKind.i64 0, Value.int IntKind.i64 0, Value.int IntKind.i64 0, Value.int IntKind.i64 0, Value.int IntKind.i64 0] 24)).setRow W.heap.size (tk m l)) W.heap.size 24 (trk x) := by rw [← HT.out]; exact blk_setRow (Blk.new W 24 _)
  have b4 : Blk ((W.alloc (Obj.cells #[Value.int IntKind.i64 0, Value.int IntKind.i64 0, Value.int IntKind.i64 0, Value.int IntKind.i64 0, Value.int IntKind.i64 0, Value.int IntKind.i64 0, Value.int IntKind.i64 0, Value.int IntKind.i64 0, Value.int IntKind.i64 0, Value.int IntKind.i64 0, Value.int IntKind.i64 0, Value.int IntKind.i64 0, Value.int IntKind.i64 0, Value.int IntKind.i64 0, Value.int IntKind.i64 0, Value.int IntKind.i64 0, Value.int IntKind.i64 0, Value.int IntKind.i64 0, Value.int IntKind.i64 0, Value.int IntKind.i64 0, Value.int IntKind.i64 0, Value.int IntKind.i64 0] 24)).setRow W.heap.size (tk m l)) g 22 (ar l) := (setRow_other _ W.heap.size g _ (by omega)).trans (Blk.alloc HAR.out _)
  have B1 : Below w.heap.size w ((W.alloc (Obj.cells #[Value.int IntKind.i64 0, Value.int IntKind.i64 0, Value.int IntKind.i64 0, Value.int IntKind.i64 0, Value.int IntKind.i64 0, Value.int IntKind.i64 0, Value.int IntKind.i64 0, Value.int IntKind.i64 0, Value.int IntKind.i64 0, Value.int IntKind.i64 0, Value.int IntKind.i64 0, Value.int IntKind.i64 0, Value.int IntKind.i64 0, Value.int IntKind.i64 0, Value.int IntKind.i64 0, Value.int IntKind.i64 0, Value.int IntKind.i64 0, Value.int IntKind.i64 0, Value.int IntKind.i64 0, Value.int IntKind.i64 0, Value.int IntKind.i64 0, Value.int IntKind.i64 0] 24)).setRow W.heap.size (tk m l)) := below_setRow (below_al B0 _) (by omega) _
  have hne : g ≠ W.heap.size := by omega
  generalize (W.alloc (Obj.cells #[Value.int IntKind.i64 0, Value.int IntKind.i64 0, Value.int IntKind.i64 0, Value.int IntKind.i64 0, Value.int IntKind.i64 0, Value.int IntKind.i64 0, Value.int IntKind.i64 0, Value.int IntKind.i64 0, Value.int IntKind.i64 0, Value.int IntKind.i64 0, Value.int IntKind.i64 0, Value.int IntKind.i64 0, Value.int IntKind.i64 0, Value.int IntKind.i64 0, Value.int IntKind.i64 0, Value.int IntKind.i64 0, Value.int IntKind.i64 0, Value.int IntKind.i64 0, Value.int IntKind.i64 0, Value.int IntKind.i64 0, Value.int IntKind.i64 0, Value.int IntKind.i64 0] 24)).setRow W.heap.size (tk m l) = W1 at *
  generalize W.heap.size = g7 at *
  clear B0 zl HAR
  unfold Blk at b7 b4
  have H7 := Lib.hid b7; have H4 := Lib.hid b4
  have z7 := Blk.lt b7
  have z4 := Blk.lt b4
  clear b7 b4
  go_wp2_with (first | refine wpList_load_row rfl 24 _ rfl (g7) rfl 24 (trk x) (0, 0) _ H7.out Tryd.underlying24 rfl (trk_info _) ?_ | refine load_guarded (by rfl) 24 _ rfl (g7) rfl 24 (trk x) (0, 0) _ H7.out Tryd.underlying24 rfl (trk_info _) ?_)
  refine (PN.out _).mono ?_
  rintro e w2 ⟨rfl, hb2⟩
  have b7 : Blk w2 g7 24 (trk x) := Blk.below (t := 24) (cs := trk x) H7.out hb2
  have b4 : Blk w2 g 22 (ar l) := Blk.below (t := 22) (cs := ar l) H4.out hb2
  have B2 := below_trans B1 hb2
  have z72 := b7.lt
  have z42 := b4.lt
  go_upto_region 3 with (first | refine wpList_store_row rfl 24 _ _ rfl w2.heap.size (trk q) rfl rfl 24 #[Value.int IntKind.i64 0, Value.int IntKind.i64 0, Value.int IntKind.i64 0, Value.int IntKind.i64 0, Value.int IntKind.i64 0, Value.int IntKind.i64 0, Value.int IntKind.i64 0, Value.int IntKind.i64 0, Value.int IntKind.i64 0, Value.int IntKind.i64 0, Value.int IntKind.i64 0, Value.int IntKind.i64 0, Value.int IntKind.i64 0, Value.int IntKind.i64 0, Value.int IntKind.i64 0, Value.int IntKind.i64 0, Value.int IntKind.i64 0, Value.int IntKind.i64 0, Value.int IntKind.i64 0, Value.int IntKind.i64 0, Value.int IntKind.i64 0, Value.int IntKind.i64 0] (heap_alloc_new w2 _) (trk_info _) (by rw [trk_size]; rfl) (trk_one _) ?_)
  have c8 : Blk ((w2.alloc (Obj.cells #[Value.int IntKind.i64 0, Value.int IntKind.i64 0, Value.int IntKind.i64 0, Value.int IntKind.i64 0, Value.int IntKind.i64 0, Value.int IntKind.i64 0, Value.int IntKind.i64 0, Value.int IntKind.i64 0, Value.int IntKind.i64 0, Value.int IntKind.i64 0, Value.int IntKind.i64 0, Value.int IntKind.i64 0, Value.int IntKind.i64 0, Value.int IntKind.i64 0, Value.int IntKind.i64 0, Value.int IntKind.i64 0, Value.int IntKind.i64 0, Value.int IntKind.i64 0, Value.int IntKind.i64 0, Value.int IntKind.i64 0, Value.int IntKind.i64 0, Value.int IntKind.i64 0] 24)).setRow w2.heap.size (trk q)) w2.heap.size 24 (trk q) := blk_setRow (Blk.new w2 24 _)
  have c7 : Blk ((w2.alloc (Obj.cells #[Value.int IntKind.i64 0, Value.int IntKind.i64 0, Value.int IntKind.i64 0, Value.int IntKind.i64 0, Value.int IntKind.i64 0, Value.int IntKind.i64 0, Value.int IntKind.i64 0, Value.int IntKind.i64 0, Value.int IntKind.i64 0, Value.int IntKind.i64 0, Value.int IntKind.i64 0, Value.int IntKind.i64 0, Value.int IntKind.i64 0, Value.int IntKind.i64 0, Value.int IntKind.i64 0, Value.int IntKind.i64 0, Value.int IntKind.i64 0, Value.int IntKind.i64 0, Value.int IntKind.i64 0, Value.int IntKind.i64 0, Value.int IntKind.i64 0, Value.int IntKind.i64 0] 24)).setRow w2.heap.size (trk q)) g7 24 (trk x) := (setRow_other _ w2.heap.size g7 _ (by omega)).trans (Blk.alloc b7 _)
  have c4 : Blk ((w2.alloc (Obj.cells #[Value.int IntKind.i64 0, Value.int IntKind.i64 0, Value.int IntKind.i64 0, Value.int IntKind.i64 0, Value.int IntKind.i64 0, Value.int IntKind.i64 0, Value.int IntKind.i64 0, Value.int IntKind.i64 0, Value.int IntKind.i64 0, Value.int IntKind.i64 0, Value.int IntKind.i64 0, Value.int IntKind.i64 0, Value.int IntKind.i64 0, Value.int IntKind.i64 0, Value.int IntKind.i64 0, Value.int IntKind.i64 0, Value.int IntKind.i64 0, Value.int IntKind.i64 0, Value.int IntKind.i64 0, Value.int IntKind.i64 0, Value.int IntKind.i64 0, Value.int IntKind.i64 0] 24)).setRow w2.heap.size (trk q)) g 22 (ar l) := (setRow_other _ w2.heap.size g _ (by omega)).trans (Blk.alloc b4 _)
  have B3 : Below w.heap.size w ((w2.alloc (Obj.cells #[Value.int IntKind.i64 0, Value.int IntKind.i64 0, Value.int IntKind.i64 0, Value.int IntKind.i64 0, Value.int IntKind.i64 0, Value.int IntKind.i64 0, Value.int IntKind.i64 0, Value.int IntKind.i64 0, Value.int IntKind.i64 0, Value.int IntKind.i64 0, Value.int IntKind.i64 0, Value.int IntKind.i64 0, Value.int IntKind.i64 0, Value.int IntKind.i64 0, Value.int IntKind.i64 0, Value.int IntKind.i64 0, Value.int IntKind.i64 0, Value.int IntKind.i64 0, Value.int IntKind.i64 0, Value.int IntKind.i64 0, Value.int IntKind.i64 0, Value.int IntKind.i64 0] 24)).setRow w2.heap.size (trk q)) := below_setRow (below_al B2 _) (by have := B2.size; omega) _
  generalize (w2.alloc (Obj.cells #[Value.int IntKind.i64 0, Value.int IntKind.i64 0, Value.int IntKind.i64 0, Value.int IntKind.i64 0, Value.int IntKind.i64 0, Value.int IntKind.i64 0, Value.int IntKind.i64 0, Value.int IntKind.i64 0, Value.int IntKind.i64 0, Value.int IntKind.i64 0, Value.int IntKind.i64 0, Value.int IntKind.i64 0, Value.int IntKind.i64 0, Value.int IntKind.i64 0, Value.int IntKind.i64 0, Value.int IntKind.i64 0, Value.int IntKind.i64 0, Value.int IntKind.i64 0, Value.int IntKind.i64 0, Value.int IntKind.i64 0, Value.int IntKind.i64 0, Value.int IntKind.i64 0] 24)).setRow w2.heap.size (trk q) = W3 at *
  generalize w2.heap.size = g8 at *
  clear B1 B2 hb2 b7 b4 H7 H4 z72 z42 z7 z4
  unfold Blk at c7 c8 c4
  have H7 := Lib.hid c7; have H8 := Lib.hid c8; have H4 := Lib.hid c4
  clear c7 c8 c4
  go_wp2_with (first | refine wpList_load_row rfl 22 _ rfl (g) rfl 22 (ar l) (0, 0) _ H4.out Tryd.underlying22 rfl (ar_info _) ?_ | refine load_guarded (by rfl) 22 _ rfl (g) rfl 22 (ar l) (0, 0) _ H4.out Tryd.underlying22 rfl (ar_info _) ?_)
  refine (MW.out _).mono ?_
  rintro e w4 ⟨rfl, hb4⟩
  have d7 : Blk w4 g7 24 (trk x) := Blk.below (t := 24) (cs := trk x) H7.out hb4
  have d8 : Blk w4 g8 24 (trk q) := Blk.below (t := 24) (cs := trk q) H8.out hb4
  have d4 : Blk w4 g 22 (ar l) := Blk.below (t := 22) (cs := ar l) H4.out hb4
  have B4 := below_trans B3 hb4
  clear B3 hb4 H7 H8 H4 PN MW HT
  have hi4 := IA.out _ _ d4
  have z4 := d4.lt
  have z7 := d7.lt
  have m0 : (0 : Int) ≤ m := by omega
  have m21 : (m : Int) ≤ 21 := by omega
  clear IA d4
  have c8 : w4.cell? ⟨g8, 0, none⟩ = some (.int .i64 q.length) := by rw [d8.cell, trk_get _ _ (by omega)]; rfl
  have c7 : w4.cell? ⟨g7, 0, none⟩ = some (.int .i64 m) := by rw [d7.cell, trk_get _ _ (by omega)]; unfold cellT; rw [if_pos rfl, HML.out]
  go_wp2_with (fail)
  refine (RP.out _ _ hi4).mono ?_
  rintro e w5 ⟨⟨A2, c2, rfl, hi5⟩, hb5⟩
  have d7' := d7.below hb5
  have d8' := d8.below hb5
  have hi5' := hi4.below hb5
  have B5 := below_trans B4 hb5
  have zz := hb5.size
  clear d7 d8 hi4 hb5 B4 c7 c8 RP
  have c8 : w5.cell? ⟨g8, 0, none⟩ = some (.int .i64 q.length) := by rw [d8'.cell, trk_get _ _ (by omega)]; rfl
  have z8 := d8'.lt
  have z4' : g < w5.heap.size := by omega
  generalize hm2 : q.length = m2 at *
  have e1 : ((m2 : Int) != m2) = false := by simp
  generalize chgF x = c at *
  have e2 : (c != c) = false := by simp
  go_upto_region 6 with (fail)
  refine wp_region_noPanic ?_
  refine wp_region_held_drew (S := (fun w' => w'.heap[g7]? = some (.cells (trk x) 24 (0, 0)) ∧ w'.heap[g8]? = some (.cells (trk q) 24 (0, 0)) ∧ w'.cell? ⟨g8, 0, none⟩ = some (.int .i64 m2) ∧ g < w'.heap.size ∧ g7 < w'.heap.size ∧ g8 < w'.heap.size ∧ Ints w' (some ⟨g, 0, none⟩) m x ∧ Ints w' A2 m2 q ∧ Below w.heap.size w w')) (by kernel_rfl) ?_ (fun hHeld => ?_)
  · exact ts_drew ⟨d7', d8', c8, z4', by omega, z8, hi5', hi5, B5⟩
  refine wpAnyH_ready (rs := [0]) (by kernel_rfl) (by simp) ?_
  refine reg_each (o := _) rfl (fun K hK => ?_) ?_
  · skip
    rw [if_pos (by rfl)]
    refine wp_load_row 24 _ rfl (g7) rfl 24 (trk x) (0, 0) _ hHeld.1 Tryd.underlying24 rfl (trk_info _) ?_
    refine hK.out _ _ ?_ (fun hHeld2 => ?_)
    · exact hHeld
    clear hK K hHeld
    have hHeld := hHeld2
    clear hHeld2
    (try simp only [Act.put, List.setIfInBounds_toArray, List.set_cons_zero, List.set_cons_succ])
    refine wpAnyH_ready (rs := [1]) (by kernel_rfl) (by simp) ?_
    refine reg_each (o := _) rfl (fun K hK => ?_) ?_
    · skip
      go_simp
      refine (CK.out _).mono ?_
      rintro e w6 ⟨rfl, hb6⟩
      go_wp2_with (fail)
      refine hK.out _ _ ?_ (fun hHeld2 => ?_)
      · exact ts_below hHeld hb6
      clear hK K hHeld
      have hHeld := hHeld2
      clear hHeld2
      (try simp only [Act.put, List.setIfInBounds_toArray, List.set_cons_zero, List.set_cons_succ])
      refine reg_take (i := 2) (oi := _) (v := ?_) rfl (by kernel_rfl) (by kernel_rfl) (by kernel_rfl) (fun _ _ _ h => h) (by rfl) ?_ (by assumption) ?_
      rotate_left
      · intro w hSw; (try dsimp only at hSw); go_simp; try with_reducible rfl
      (try simp only [Act.put, List.setIfInBounds_toArray, List.set_cons_zero, List.set_cons_succ])
      refine reg_take (i := 3) (oi := _) (v := ?_) rfl (by kernel_rfl) (by kernel_rfl) (by kernel_rfl) (fun _ _ _ h => h) (by rfl) ?_ (by assumption) ?_
      rotate_left
      · intro w hSw; (try dsimp only at hSw); go_simp; try with_reducible rfl
      (try simp only [Act.put, List.setIfInBounds_toArray, List.set_cons_zero, List.set_cons_succ])
      refine reg_take (i := 6) (oi := _) (v := ?_) rfl (by kernel_rfl) (by kernel_rfl) (by kernel_rfl) (fun _ _ _ h => h) (by rfl) ?_ (by assumption) ?_
      rotate_left
      · intro w hSw; (try dsimp only at hSw); go_simp; try with_reducible rfl
      (try simp only [Act.put, List.setIfInBounds_toArray, List.set_cons_zero, List.set_cons_succ])
      refine reg_take (i := 7) (oi := _) (v := ?_) rfl (by kernel_rfl) (by kernel_rfl) (by kernel_rfl) (fun _ _ _ h => h) (by rfl) ?_ (by assumption) ?_
      rotate_left
      · intro w hSw; (try dsimp only at hSw); go_simp; try with_reducible rfl
      (try simp only [Act.put, List.setIfInBounds_toArray, List.set_cons_zero, List.set_cons_succ])
      refine wpAnyH_ready (rs := [4]) (by kernel_rfl) (by simp) ?_
      refine reg_each (o := _) rfl (fun K hK => ?_) ?_
      · skip
        rw [if_pos (by rfl)]
        refine wp_load_row 24 _ rfl (g7) rfl 24 (trk x) (0, 0) _ hHeld.1 Tryd.underlying24 rfl (trk_info _) ?_
        refine hK.out _ _ ?_ (fun hHeld2 => ?_)
        · exact hHeld
        clear hK K hHeld
        have hHeld := hHeld2
        clear hHeld2
        (try simp only [Act.put, List.setIfInBounds_toArray, List.set_cons_zero, List.set_cons_succ])
        refine wpAnyH_ready (rs := [5]) (by kernel_rfl) (by simp) ?_
        refine reg_each (o := _) rfl (fun K hK => ?_) ?_
        · skip
          go_simp
          refine (GK.out _).mono ?_
          rintro e w6 ⟨rfl, hb6⟩
          go_wp2_with (fail)
          refine hK.out _ _ ?_ (fun hHeld2 => ?_)
          · exact ts_below hHeld hb6
          clear hK K hHeld
          have hHeld := hHeld2
          clear hHeld2
          (try simp only [Act.put, List.setIfInBounds_toArray, List.set_cons_zero, List.set_cons_succ])
          refine wpAnyH_ready (rs := [8]) (by kernel_rfl) (by simp) ?_
          refine reg_each (o := _) rfl (fun K hK => ?_) ?_
          · skip
            go_simp
            refine (RC.out _ _ (show Ints _ (some ⟨g, 0, none⟩) m x from hHeld.2.2.2.2.2.2.1)).mono ?_
            rintro e w6 ⟨rfl, hb6⟩
            go_wp2_with (fail)
            refine hK.out _ _ ?_ (fun hHeld2 => ?_)
            · exact ts_below hHeld hb6
            clear hK K hHeld
            have hHeld := hHeld2
            clear hHeld2
            (try simp only [Act.put, List.setIfInBounds_toArray, List.set_cons_zero, List.set_cons_succ])
            refine reg_take (i := 9) (oi := _) (v := ?_) rfl (by kernel_rfl) (by kernel_rfl) (by kernel_rfl) (fun _ _ _ h => h) (by rfl) ?_ (by assumption) ?_
            rotate_left
            · intro w hSw; (try dsimp only at hSw); go_simp; try with_reducible rfl
            (try simp only [Act.put, List.setIfInBounds_toArray, List.set_cons_zero, List.set_cons_succ])
            refine reg_take (i := 10) (oi := _) (v := ?_) rfl (by kernel_rfl) (by kernel_rfl) (by kernel_rfl) (fun _ _ _ h => h) (by rfl) ?_ (by assumption) ?_
            rotate_left
            · intro w hSw; (try dsimp only at hSw); go_simp; try with_reducible rfl
            (try simp only [Act.put, List.setIfInBounds_toArray, List.set_cons_zero, List.set_cons_succ])
            refine reg_take (i := 11) (oi := _) (v := ?_) rfl (by kernel_rfl) (by kernel_rfl) (by kernel_rfl) (fun _ _ _ h => h) (by rfl) ?_ (by assumption) ?_
            rotate_left
            · intro w hSw; (try dsimp only at hSw); go_simp; try with_reducible rfl
            (try simp only [Act.put, List.setIfInBounds_toArray, List.set_cons_zero, List.set_cons_succ])
            refine reg_take (i := 12) (oi := _) (v := ?_) rfl (by kernel_rfl) (by kernel_rfl) (by kernel_rfl) (fun _ _ _ h => h) (by rfl) ?_ (by assumption) ?_
            rotate_left
            · intro w hSw; (try dsimp only at hSw); go_simp; try with_reducible rfl
            (try simp only [Act.put, List.setIfInBounds_toArray, List.set_cons_zero, List.set_cons_succ])
            refine reg_take (i := 13) (oi := _) (v := ?_) rfl (by kernel_rfl) (by kernel_rfl) (by kernel_rfl) (fun _ _ _ h => h) (by rfl) ?_ (by assumption) ?_
            rotate_left
            · intro w hSw; (try dsimp only at hSw); go_simp; try with_reducible rfl
            (try simp only [Act.put, List.setIfInBounds_toArray, List.set_cons_zero, List.set_cons_succ])
            refine reg_take (i := 14) (oi := _) (v := ?_) rfl (by kernel_rfl) (by kernel_rfl) (by kernel_rfl) (fun _ _ _ h => h) (by rfl) ?_ (by assumption) ?_
            rotate_left
            · intro w hSw; (try dsimp only at hSw); go_simp; try with_reducible rfl
            (try simp only [Act.put, List.setIfInBounds_toArray, List.set_cons_zero, List.set_cons_succ])
            refine reg_take (i := 15) (oi := _) (v := ?_) rfl (by kernel_rfl) (by kernel_rfl) (by kernel_rfl) (fun _ _ _ h => h) (by rfl) ?_ (by assumption) ?_
            rotate_left
            · intro w hSw; (try dsimp only at hSw); go_simp; try with_reducible rfl
            (try simp only [Act.put, List.setIfInBounds_toArray, List.set_cons_zero, List.set_cons_succ])
            refine reg_take (i := 16) (oi := _) (v := ?_) rfl (by kernel_rfl) (by kernel_rfl) (by kernel_rfl) (fun _ _ _ h => h) (by rfl) ?_ (by assumption) ?_
            rotate_left
            · intro w hSw; (try dsimp only at hSw); go_simp; try with_reducible rfl
            (try simp only [Act.put, List.setIfInBounds_toArray, List.set_cons_zero, List.set_cons_succ])
            refine reg_take (i := 17) (oi := _) (v := ?_) rfl (by kernel_rfl) (by kernel_rfl) (by kernel_rfl) (fun _ _ _ h => h) (by rfl) ?_ (by assumption) ?_
            rotate_left
            · intro w hSw; (try dsimp only at hSw); go_simp; try with_reducible rfl
            (try simp only [Act.put, List.setIfInBounds_toArray, List.set_cons_zero, List.set_cons_succ])
            refine reg_take (i := 18) (oi := _) (v := ?_) rfl (by kernel_rfl) (by kernel_rfl) (by kernel_rfl) (fun _ _ _ h => h) (by rfl) ?_ (by assumption) ?_
            rotate_left
            · intro w hSw; (try dsimp only at hSw); go_simp; try with_reducible rfl
            (try simp only [Act.put, List.setIfInBounds_toArray, List.set_cons_zero, List.set_cons_succ])
            refine wpAnyH_ready (rs := [19]) (by kernel_rfl) (by simp) ?_
            refine reg_each (o := _) rfl (fun K hK => ?_) ?_
            · skip
              rw [if_pos (by rfl)]
              refine wp_load_row 24 _ rfl (g8) rfl 24 (trk q) (0, 0) _ hHeld.2.1 Tryd.underlying24 rfl (trk_info _) ?_
              refine hK.out _ _ ?_ (fun hHeld2 => ?_)
              · exact hHeld
              clear hK K hHeld
              have hHeld := hHeld2
              clear hHeld2
              (try simp only [Act.put, List.setIfInBounds_toArray, List.set_cons_zero, List.set_cons_succ])
              refine wpAnyH_ready (rs := [20]) (by kernel_rfl) (by simp) ?_
              refine reg_each (o := _) rfl (fun K hK => ?_) ?_
              · skip
                go_simp
                refine (CQ.out _).mono ?_
                rintro e w6 ⟨rfl, hb6⟩
                go_wp2_with (fail)
                refine hK.out _ _ ?_ (fun hHeld2 => ?_)
                · exact ts_below hHeld hb6
                clear hK K hHeld
                have hHeld := hHeld2
                clear hHeld2
                (try simp only [Act.put, List.setIfInBounds_toArray, List.set_cons_zero, List.set_cons_succ])
                refine reg_take (i := 21) (oi := _) (v := ?_) rfl (by kernel_rfl) (by kernel_rfl) (by kernel_rfl) (fun _ _ _ h => h) (by rfl) ?_ (by assumption) ?_
                rotate_left
                · intro w hSw; (try dsimp only at hSw); go_simp; try with_reducible rfl
                (try simp only [Act.put, List.setIfInBounds_toArray, List.set_cons_zero, List.set_cons_succ])
                refine reg_take (i := 22) (oi := _) (v := ?_) rfl (by kernel_rfl) (by kernel_rfl) (by kernel_rfl) (fun _ _ _ h => h) (by rfl) ?_ (by assumption) ?_
                rotate_left
                · intro w hSw; (try dsimp only at hSw); go_simp; try with_reducible rfl
                (try simp only [Act.put, List.setIfInBounds_toArray, List.set_cons_zero, List.set_cons_succ])
                refine wpAnyH_done (by kernel_rfl) ?_ _
                refine NoPanic.normal ?_
                go_wp2_with (fail)
                have hfin : TS w g g7 g8 m m2 x q A2 _ := hHeld
                clear hHeld c8 d7' d8' hi5 hi5' z8 z4 z7 z4' B5
                obtain ⟨_, d8, _, _, _, _, _, hi2, hbel2⟩ := hfin
                go_upto_region 9 with (fail)
                go_loopw [10] (fun i wr3 => ∃ (j : Nat), j ≤ m2 ∧ i = .int .i64 j ∧ Blk wr3 g8 24 (trk q) ∧ Ints wr3 A2 m2 q ∧ Below w.heap.size w wr3) (fun i _ => m2 - (intOf i).toNat)
                case atStart => exact ⟨0, by omega, rfl, d8, hi2, hbel2⟩
                case round =>
                  clear d8 hi2 hbel2
                  obtain ⟨j, hj, rfl, d8, hi2, hbel2⟩ := hrel
                  by_cases hjm : j < m2
                  · obtain ⟨ad2, rfl, hlt2, hc2⟩ := hi2.2.2.2 (by omega)
                    have hj21 : j < 21 := by have h := HO.out.1; rw [hm2] at h; omega
                    have f1 : wr.cell? (ad2.add j) = some (.int .i64 (q.getD j 0)) := hc2 j (by omega)
                    have f0 : wr.cell? ⟨g8, 1 + j, none⟩ = some (.int .i64 (q.getD j 0)) := by rw [d8.cell, trk_get _ _ (by omega), cell_pos]
                    have D8 := Lib.hid d8
                    have NI := Lib.hid hi2
                    clear d8 hi2 hc2
                    generalize q.getD j 0 = u at *
                    have e4 : (u != u) = false := by simp
                    have j0 : (0 : Int) ≤ j := by omega
                    have j1 : (j : Int) < 21 := by omega
                    have j2 : (j : Int) < m2 := by omega
                    go_upto_region 11 with (fail)
                    go_quiet (fail)
                    clear f0 f1
                    go_wp2
                    go_roundw
                    case rel => exact ⟨j + 1, by omega, by go_num, D8.out.drewN _, NI.out.below (below_drewN (Below.refl _ _) _), below_drewN hbel2 _⟩
                    case measure => simp [intOf]; omega
                  · obtain rfl : j = m2 := by omega
                    go_wp2_with (fail)
                    refine (sure_walk _).mono ?_
                    rintro e w9 ⟨rfl, hb9⟩
                    go_wp2
                    go_ret
                    exact ⟨rfl, below_trans hbel2 hb9⟩
              exact AllReadyH.nil
            exact AllReadyH.nil
          exact AllReadyH.nil
        exact AllReadyH.nil
      exact AllReadyH.nil
    exact AllReadyH.nil
  exact AllReadyH.nil
theorem tracks_walk (n s : Int) (l : List Int) (hl : l.length = 21) (w : World) (hg : ErrType w) :
    Calls Tryd.prog 3 #[.int .i64 n, .agg (l.map (fun y => Value.int .i64 y)).toArray, .int .i64 s] w fun e w' => e = .returned (.bool true) ∧ Below w.heap.size w w' := by
  have e : (l.map (fun y => Value.int .i64 y)).toArray = ar (fun j => l.getD j 0) := by
    apply Array.ext
    · simp [ar_size, hl]
    · intro i h1 h2
      rw [ar_size] at h2
      have a := ar_get (fun j => l.getD j 0) i h2
      rw [Array.getElem?_eq_getElem (by rw [ar_size]; exact h2)] at a
      rw [Option.some.inj a]
      simp [List.getD, show i < l.length by omega]
  rw [e]
  by_cases h : mayP n (fun j => l.getD j 0)
  · obtain ⟨x, hx, rfl, htk, hxl⟩ := tk_of_may h
    exact tracks_good x.length _ s w hg x rfl hx htk hxl h
  · exact tracks_bad n _ s w hg h
end Go.Proofs.YtndipldjkojofaaDoor
