/- Sorted and once of ints. -/
import Derived.Test.YtbnnbhblfclomaaDoorE3
import Derived.Test.YtbnnbhblfclomaaDoorShelfLay
import Derived.Test.YtbnnbhblfclomaaDoorUp
import Derived.Sort.OwnSortedInts
import Derived.Lib.RowBridge
namespace Go.Proofs.YtbnnbhblfclomaaDoor
open Go.RowKit
set_option linter.unusedVariables false
open Go.Shelf Go.Sort
theorem below_grown' {B : Nat} {W w w1 : World} {row : Option Nat} (h : Below B W w) (g : w.grownBy w1 row) (hr : ∀ k, row = some k → B ≤ k) (hB : B ≤ w.heap.size) : Below B W w1 :=
  ⟨g.os.trans h.os, g.tape.trans h.tape, g.output.trans h.output, Nat.le_trans h.size g.size, fun k hk => (g.block k (by omega) (fun e => by have := hr k e.symm; omega)).trans (h.block k hk)⟩
def srt (l : List Int) : List Int := l.mergeSort fun x y => decide (x ≤ y)
theorem srt_len (l : List Int) : (srt l).length = l.length := List.length_mergeSort l
def SortedSaid (l : List Int) (W : World) (x : Ending) (w' : World) : Prop :=
  ∃ v, x = .returned v ∧ w'.ownsRow W.heap.size 3 1 v l.length ((srt l).map (Value.int .i64)) ∧ Below W.heap.size W w'
set_option maxRecDepth 100000 in
set_option maxHeartbeats 1000000 in
theorem sorted_walk (Bs : Nat) (sv : Value) (l : List Int) (hlen : l.length ≤ 65536) (w : World) (hBs : Bs < w.heap.size) (hc : w.cell? ⟨Bs, 0, none⟩ = some sv) (hI : RdI w sv w.heap.size l) :
    Calls Tryd.prog 18 #[.func (.func 33) #[] #[.pointer (some ⟨Bs, 0, none⟩)]] w (SortedSaid l w) := by
  have CW := Lib.hid (collect_walk Bs sv l hlen w hBs hc hI)
  clear hc hI
  go_enter Tryd.func18, Tryd.ntmps18
  go_wp2_with (fail)
  refine CW.out.mono ?_
  rintro x w1 ⟨v, rfl, hown, B1⟩
  rcases hown.2 with ⟨rfl, h0⟩ | ⟨g, cap, cur, rfl, hBg, hb, hn, hcm, hcs, ht⟩
  · have hl := List.eq_nil_of_length_eq_zero h0
    subst hl
    have HO := Lib.hid hown
    clear hown CW
    go_wp2_with (fail)
    refine (Any.slices_Sort_int_none Tryd.sortInt none 0 w1).mono ?_
    rintro x w2 ⟨rfl, rfl⟩
    go_wp2
    go_ret
    exact ⟨_, rfl, by rw [show srt [] = [] by simp [srt]]; exact HO.out, B1⟩
  · have hH := holds_of_blockI (ss := l) hb (by rw [Nat.mul_one] at ht; exact ht)
    have SE := Lib.hid (Any.slices_Sort_int Tryd.sortInt g 0 cap l w1 hH (Array.getElem?_eq_some_iff.1 hb).1 (by omega))
    have HB := Lib.hid hb
    have HN := Lib.hid hcs
    have HC := Lib.hid hcm
    clear hown CW hb ht hH hcs hcm
    go_wp2_with (fail)
    refine SE.out.mono ?_
    rintro x w2 ⟨rfl, m, os, rfl⟩
    have hown2 := Lib.hid (ownsRow_sortedI (n := m) (os := os) (ss := l) (ts := srt l) (srt_len l) hBg HB.out hn HC.out HN.out)
    have B2 := below_grown' B1 (grownBy_sortedI (w := w1) (g := g) (n := m) (os := os) (srt l).toArray) (fun k e => by cases e; exact hBg) B1.size
    clear SE
    rw [show l.mergeSort (fun x y => decide (x ≤ y)) = srt l from rfl]
    generalize grow (putRow (Value.int .i64) (Sort.ahead w1 m) g 0 (srt l).toArray) os = w3 at *
    go_wp2
    go_ret
    exact ⟨_, rfl, hown2.out, B2⟩
/-- Ints, ascending, each once, in memory of one's own. -/
def OnceSaid (l : List Int) (W : World) (x : Ending) (w' : World) : Prop :=
  ∃ v L, x = .returned v ∧ Up L l ∧ L.length ≤ l.length ∧ w'.ownsRow W.heap.size 3 1 v L.length (L.map (Value.int .i64)) ∧ Below W.heap.size W w'
theorem RdI.alloc {w : World} {v : Value} {n₀ : Nat} {L : List Int} (h : RdI w v n₀ L) (hn : n₀ ≤ w.heap.size) (o : Obj) : RdI (w.alloc o) v n₀ L := by
  rcases h with h | ⟨g, of, cap, e, hg, hc⟩
  · exact .inl h
  · exact .inr ⟨g, of, cap, e, hg, fun i hi => ((Below.refl w.heap.size w).alloc (Nat.le_refl _) o |>.cell (p := ⟨g, of + i, none⟩) (by simp; omega)).trans (hc i hi)⟩
theorem RdI.wider {w : World} {v : Value} {n m : Nat} {L : List Int} (h : RdI w v n L) (hn : n ≤ m) : RdI w v m L := by
  rcases h with h | ⟨g, of, cap, e, hg, hc⟩
  · exact .inl h
  · exact .inr ⟨g, of, cap, e, by omega, hc⟩
theorem RdI.below {w w1 : World} {v : Value} {n B : Nat} {L : List Int} (h : RdI w v n L) (hb : Below B w w1) (hn : n ≤ B) : RdI w1 v n L := by
  rcases h with h | ⟨g, of, cap, e, hg, hc⟩
  · exact .inl h
  · exact .inr ⟨g, of, cap, e, hg, fun i hi => (hb.cell (p := ⟨g, of + i, none⟩) (by simp; omega)).trans (hc i hi)⟩
theorem RdI.form {w : World} {v : Value} {n : Nat} {L : List Int} (h : RdI w v n L) : ∃ A cap, v = .slice A L.length cap := by
  rcases h with ⟨A, cap, rfl, _, rfl⟩ | ⟨g, of, cap, e, hg, hc⟩
  · exact ⟨_, _, rfl⟩
  · exact ⟨_, _, e⟩
theorem comp_len (l : List Int) : (Lib.compact (srt l)).length ≤ l.length := by
  have := Lib.compact_length_le (srt l)
  rw [srt_len] at this; exact this
end Go.Proofs.YtbnnbhblfclomaaDoor
