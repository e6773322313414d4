/- The document's Set, refused. -/
import Derived.Test.YtfbbkeekpkbjhaaDoorD5
namespace Go.Proofs.YtfbbkeekpkbjhaaDoor
open Go.RowKit
set_option maxRecDepth 100000 in
set_option maxHeartbeats 1000000 in
theorem refset_full (v : Value) (L : List Ev) (room : Int) (e : Ev) (w : World) (h : RdE w v L) (hl : L.length ≤ 65536) (t0 : 0 ≤ e.t) (t1 : e.t ≤ 4611686018427387904) (k0 : 0 ≤ e.k) (d0 : 0 ≤ e.d) (hr : room ≤ (L.length : Int)) (hno : ∀ x ∈ L, ¬ KD x e.k e.d) :
    Calls Tryd.prog 13 #[v, .int .i64 room, .agg (evV e)] w fun x w' => x = .returned (.tuple #[v, .int .i64 10]) ∧ Below w.heap.size w w' := by
  have BX := below_al (Below.refl w.heap.size w) (.cells (evV e) 43)
  have FD := Lib.hid (reffind_walk v L e.k e.d (w.alloc (.cells (evV e) 43)) (h.below BX) hl)
  have hx := Blk.new w 43 (evV e)
  have x0 : (w.alloc (.cells (evV e) 43)).cell? ⟨w.heap.size, 0, none⟩ = some (.int .i64 e.t) := by rw [hx.cell]; rfl
  have x1 : (w.alloc (.cells (evV e) 43)).cell? ⟨w.heap.size, 1, none⟩ = some (.int .i64 e.k) := by rw [hx.cell]; rfl
  have x2 : (w.alloc (.cells (evV e) 43)).cell? ⟨w.heap.size, 2, none⟩ = some (.int .i64 e.d) := by rw [hx.cell]; rfl
  have zp := hx.lt
  obtain ⟨A, cap, rfl, _⟩ := h.form
  have n1 : decide (e.t < 0) = false := decide_eq_false (by omega)
  have n2 : decide (4611686018427387904 < e.t) = false := decide_eq_false (by omega)
  have n3 : decide (e.k < 0) = false := decide_eq_false (by omega)
  have n4 : decide (e.d < 0) = false := decide_eq_false (by omega)
  have HNO := Lib.hid hno
  have HB := Lib.hid BX
  clear h hx hno BX
  unfold evV at *
  go_enter Tryd.func13, Tryd.ntmps13
  go_wp2_with (fail)
  refine FD.out.mono ?_
  rintro x w1 ⟨rfl, r, rfl, hr2⟩
  obtain rfl : r = -1 := by
    rcases hr2 with ⟨e1, _⟩ | ⟨i, hi, _, hk⟩
    · exact e1
    · refine absurd hk (HNO.out _ ?_)
      rw [List.getD_eq_getElem?_getD, List.getElem?_eq_getElem hi]; exact List.getElem_mem _
  clear FD hr2
  go_wp2
  go_ret2
  exact ⟨rfl, HB.out⟩
def BadEv (e : Ev) : Prop := e.t < 0 ∨ 4611686018427387904 < e.t ∨ e.k < 0 ∨ e.d < 0
set_option maxRecDepth 100000 in
set_option maxHeartbeats 1000000 in
theorem refset_bad (A : Option Addr) (n cap : Nat) (room : Int) (e : Ev) (w : World) (hb : BadEv e) :
    Calls Tryd.prog 13 #[.slice A n cap, .int .i64 room, .agg (evV e)] w fun x w' => x = .returned (.tuple #[.slice A n cap, .int .i64 1]) ∧ Below w.heap.size w w' := by
  have BX := below_al (Below.refl w.heap.size w) (.cells (evV e) 43)
  have hx := Blk.new w 43 (evV e)
  have x0 : (w.alloc (.cells (evV e) 43)).cell? ⟨w.heap.size, 0, none⟩ = some (.int .i64 e.t) := by rw [hx.cell]; rfl
  have x1 : (w.alloc (.cells (evV e) 43)).cell? ⟨w.heap.size, 1, none⟩ = some (.int .i64 e.k) := by rw [hx.cell]; rfl
  have x2 : (w.alloc (.cells (evV e) 43)).cell? ⟨w.heap.size, 2, none⟩ = some (.int .i64 e.d) := by rw [hx.cell]; rfl
  have zp := hx.lt
  have HB := Lib.hid BX
  clear hx BX
  unfold evV at *
  have key : e.t < 0 ∨ (0 ≤ e.t ∧ 4611686018427387904 < e.t) ∨ (0 ≤ e.t ∧ e.t ≤ 4611686018427387904 ∧ e.k < 0) ∨ (0 ≤ e.t ∧ e.t ≤ 4611686018427387904 ∧ 0 ≤ e.k ∧ e.d < 0) := by unfold BadEv at hb; omega
  clear hb
  go_enter Tryd.func13, Tryd.ntmps13
  rcases key with h | ⟨h0, h⟩ | ⟨h0, h1, h⟩ | ⟨h0, h1, h2, h⟩
  · have n1 : decide (e.t < 0) = true := decide_eq_true h
    go_wp2
    go_ret2
    exact ⟨rfl, HB.out⟩
  · have n1 : decide (e.t < 0) = false := decide_eq_false (by omega)
    have n2 : decide (4611686018427387904 < e.t) = true := decide_eq_true h
    go_wp2
    go_ret2
    exact ⟨rfl, HB.out⟩
  · have n1 : decide (e.t < 0) = false := decide_eq_false (by omega)
    have n2 : decide (4611686018427387904 < e.t) = false := decide_eq_false (by omega)
    have n3 : decide (e.k < 0) = true := decide_eq_true h
    go_wp2
    go_ret2
    exact ⟨rfl, HB.out⟩
  · have n1 : decide (e.t < 0) = false := decide_eq_false (by omega)
    have n2 : decide (4611686018427387904 < e.t) = false := decide_eq_false (by omega)
    have n3 : decide (e.k < 0) = false := decide_eq_false (by omega)
    have n4 : decide (e.d < 0) = true := decide_eq_true h
    go_wp2
    go_ret2
    exact ⟨rfl, HB.out⟩
end Go.Proofs.YtfbbkeekpkbjhaaDoor
