/- Sorted and once of ints. -/
import Derived.Test.YtjffciejoahegaaDoorE3
import Derived.Test.YtjffciejoahegaaDoorShelfLay
import Derived.Test.YtjffciejoahegaaDoorUp
import Derived.Sort.OwnSortedInts
import Derived.Lib.RowBridge
namespace Go.Proofs.YtjffciejoahegaaDoor
open Go.RowKit
set_option linter.unusedVariables false
open Go.Shelf Go.Sort
theorem below_grown' {B : Nat} {W w w1 : World} {row : Option Nat} (h : Below B W w) (g : w.grownBy w1 row) (hr : ∀ k, row = some k → B ≤ k) (hB : B ≤ w.heap.size) : Below B W w1 :=
  ⟨g.os.trans h.os, g.tape.trans h.tape, g.output.trans h.output, Nat.le_trans h.size g.size, fun k hk => (g.block k (by omega) (fun e => by have := hr k e.symm; omega)).trans (h.block k hk)⟩
def srt (l : List Int) : List Int := l.mergeSort fun x y => decide (x ≤ y)
theorem srt_len (l : List Int) : (srt l).length = l.length := List.length_mergeSort l
def SortedSaid (l : List Int) (W : World) (x : Ending) (w' : World) : Prop :=
  ∃ v, x = .returned v ∧ w'.ownsRow W.heap.size 3 1 v l.length ((srt l).map (Value.int .i64)) ∧ Below W.heap.size W w'
set_option maxRecDepth 100000 in
set_option maxHeartbeats 1000000 in
theorem sorted_walk (Bs : Nat) (sv : Value) (l : List Int) (hlen : l.length ≤ 65536) (w : World) (hBs : Bs < w.heap.size) (hc : w.cell? ⟨Bs, 0, none⟩ = some sv) (hI : RdI w sv w.heap.size l) :
    Calls Tryd.prog 25 #[.func (.func 29) #[] #[.pointer (some ⟨Bs, 0, none⟩)]] w (SortedSaid l w) := by
  have CW := Lib.hid (collect_walk Bs sv l hlen w hBs hc hI)
  clear hc hI
  go_enter Tryd.func25, Tryd.ntmps25
  go_wp2_with (fail)
  refine CW.out.mono ?_
  rintro x w1 ⟨v, rfl, hown, B1⟩
  rcases hown.2 with ⟨rfl, h0⟩ | ⟨g, cap, cur, rfl, hBg, hb, hn, hcm, hcs, ht⟩
  · have hl := List.eq_nil_of_length_eq_zero h0
    subst hl
    have HO := Lib.hid hown
    clear hown CW
    go_wp2_with (fail)
    refine (Any.slices_Sort_int_none Tryd.sortInt none 0 w1).mono ?_
    rintro x w2 ⟨rfl, rfl⟩
    go_wp2
    go_ret
    exact ⟨_, rfl, by rw [show srt [] = [] by simp [srt]]; exact HO.out, B1⟩
  · have hH := holds_of_blockI (ss := l) hb (by rw [Nat.mul_one] at ht; exact ht)
    have SE := Lib.hid (Any.slices_Sort_int Tryd.sortInt g 0 cap l w1 hH (Array.getElem?_eq_some_iff.1 hb).1 (by omega))
    have HB := Lib.hid hb
    have HN := Lib.hid hcs
    have HC := Lib.hid hcm
    clear hown CW hb ht hH hcs hcm
    go_wp2_with (fail)
    refine SE.out.mono ?_
    rintro x w2 ⟨rfl, m, os, rfl⟩
    have hown2 := Lib.hid (ownsRow_sortedI (n := m) (os := os) (ss := l) (ts := srt l) (srt_len l) hBg HB.out hn HC.out HN.out)
    have B2 := below_grown' B1 (grownBy_sortedI (w := w1) (g := g) (n := m) (os := os) (srt l).toArray) (fun k e => by cases e; exact hBg) B1.size
    clear SE
    rw [show l.mergeSort (fun x y => decide (x ≤ y)) = srt l from rfl]
    generalize grow (putRow (Value.int .i64) (Sort.ahead w1 m) g 0 (srt l).toArray) os = w3 at *
    go_wp2
    go_ret
    exact ⟨_, rfl, hown2.out, B2⟩
/-- Ints, ascending, each once, in memory of one's own. -/
def OnceSaid (l : List Int) (W : World) (x : Ending) (w' : World) : Prop :=
  ∃ v L, x = .returned v ∧ Up L l ∧ L.length ≤ l.length ∧ w'.ownsRow W.heap.size 3 1 v L.length (L.map (Value.int .i64)) ∧ Below W.heap.size W w'
theorem RdI.alloc {w : World} {v : Value} {n₀ : Nat} {L : List Int} (h : RdI w v n₀ L) (hn : n₀ ≤ w.heap.size) (o : Obj) : RdI (w.alloc o) v n₀ L := by
  rcases h with h | ⟨g, of, cap, e, hg, hc⟩
  · exact .inl h
  · exact .inr ⟨g, of, cap, e, hg, fun i hi => ((Below.refl w.heap.size w).alloc (Nat.le_refl _) o |>.cell (p := ⟨g, of + i, none⟩) (by simp; omega)).trans (hc i hi)⟩
theorem RdI.wider {w : World} {v : Value} {n m : Nat} {L : List Int} (h : RdI w v n L) (hn : n ≤ m) : RdI w v m L := by
  rcases h with h | ⟨g, of, cap, e, hg, hc⟩
  · exact .inl h
  · exact .inr ⟨g, of, cap, e, by omega, hc⟩
theorem RdI.below {w w1 : World} {v : Value} {n B : Nat} {L : List Int} (h : RdI w v n L) (hb : Below B w w1) (hn : n ≤ B) : RdI w1 v n L := by
  rcases h with h | ⟨g, of, cap, e, hg, hc⟩
  · exact .inl h
  · exact .inr ⟨g, of, cap, e, hg, fun i hi => (hb.cell (p := ⟨g, of + i, none⟩) (by simp; omega)).trans (hc i hi)⟩
theorem RdI.form {w : World} {v : Value} {n : Nat} {L : List Int} (h : RdI w v n L) : ∃ A cap, v = .slice A L.length cap := by
  rcases h with ⟨A, cap, rfl, _, rfl⟩ | ⟨g, of, cap, e, hg, hc⟩
  · exact ⟨_, _, rfl⟩
  · exact ⟨_, _, e⟩
theorem comp_len (l : List Int) : (Lib.compact (srt l)).length ≤ l.length := by
  have := Lib.compact_length_le (srt l)
  rw [srt_len] at this; exact this
set_option maxRecDepth 100000 in
set_option maxHeartbeats 1000000 in
theorem once_walk (sv : Value) (l : List Int) (hlen : l.length ≤ 65536) (w : World) (hI : RdI w sv w.heap.size l) : Calls Tryd.prog 22 #[sv] w (OnceSaid l w) := by
  obtain ⟨A, cap, rfl⟩ := hI.form
  have SW := Lib.hid (sorted_walk w.heap.size (.slice A l.length cap) l hlen (w.alloc (.cells #[.slice A l.length cap] 41)) (by simp) (by simp) ((hI.alloc (Nat.le_refl _) _).wider (by simp)))
  have B1 := below_al (Below.refl w.heap.size w) (.cells #[.slice A l.length cap] 41)
  have HU := Lib.hid (compact_up l)
  have HL := Lib.hid (comp_len l)
  clear hI
  go_enter Tryd.func22, Tryd.ntmps22
  go_wp2_with (fail)
  refine (values_walk A l.length cap w).mono ?_
  rintro x w1 ⟨rfl, rfl⟩
  go_wp2_with (fail)
  refine SW.out.mono ?_
  rintro x w2 ⟨v, rfl, hown, B2⟩
  have B3 := below_trans B1 B2
  have hsz : w.heap.size ≤ (w.alloc (.cells #[.slice A l.length cap] 41)).heap.size := by simp
  rcases hown.2 with ⟨rfl, h0⟩ | ⟨g, cp, cur, rfl, hBg, hb, hn, hcm, hcs, ht⟩
  · have hl := List.eq_nil_of_length_eq_zero h0
    subst hl
    have HO := Lib.hid hown
    clear hown SW
    go_wp2_with (fail)
    refine (Any.slices_Compact_int_empty Tryd.compactInt none 0 w2).mono ?_
    rintro x w3 ⟨rfl, rfl⟩
    go_wp2
    go_ret
    exact ⟨_, [], rfl, ⟨List.Pairwise.nil, fun x => Iff.rfl⟩, Nat.le_refl _, ⟨rfl, .inl ⟨rfl, rfl⟩⟩, B3⟩
  · have hH := holds_of_blockI (ss := srt l) hb (by rw [srt_len]; rw [Nat.mul_one] at ht; exact ht)
    have CE := Lib.hid (Any.slices_Compact_int Tryd.compactInt g 0 cp (srt l) w2 hH (by rw [srt_len]; omega) (by rw [srt_len]; exact hn))
    rw [srt_len] at CE
    have HB := Lib.hid hb
    have HN := Lib.hid hcs
    have HC := Lib.hid hcm
    clear hown SW hb ht hH hcs hcm
    go_wp2_with (fail)
    refine CE.out.mono ?_
    rintro x w3 ⟨rfl, q, rfl⟩
    have hL := HL.out
    have hU := HU.out
    change Up (Lib.compact (srt l)) l at hU
    generalize hts : Lib.compact (srt l) ++ List.replicate (l.length - (Lib.compact (srt l)).length) 0 = ts
    have htl : ts.length = l.length := by rw [← hts]; simp; omega
    have hown2 := ownsRow_sortedI (n := q) (os := #[]) (ss := l) (ts := ts) htl (Nat.le_trans hsz hBg) HB.out hn HC.out HN.out
    have B4 := below_grown' B3 (grownBy_sortedI (w := w2) (g := g) (n := q) (os := #[]) ts.toArray) (fun k e => by cases e; exact Nat.le_trans hsz hBg) B3.size
    rw [grow_empty] at hown2 B4
    have hown3 := Lib.hid (show (putRow (Value.int .i64) (Sort.ahead w2 q) g 0 ts.toArray).ownsRow w.heap.size 3 1 (.slice (some ⟨g, 0, none⟩) (Lib.compact (srt l)).length cp) (Lib.compact (srt l)).length ((Lib.compact (srt l)).map (Value.int .i64)) by
      refine ⟨by simp, ?_⟩
      rcases hown2.2 with ⟨e, _⟩ | ⟨g', cp', cur', e, b1, b2, b3, b4, b5, b6⟩
      · cases e
      · cases e
        refine .inr ⟨_, _, cur', rfl, b1, b2, by omega, b4, b5, ?_⟩
        rw [Nat.mul_one] at b6 ⊢
        have : (cur'.toList.take l.length).take (Lib.compact (srt l)).length = (ts.map (Value.int .i64)).take (Lib.compact (srt l)).length := by rw [b6]
        rw [List.take_take, Nat.min_eq_left hL] at this
        rw [this, ← List.map_take, ← hts, List.take_left'  rfl])
    generalize putRow (Value.int .i64) (Sort.ahead w2 q) g 0 ts.toArray = w4 at *
    have HU2 := Lib.hid hU
    have HL2 := Lib.hid hL
    clear hown2 hts htl hU hL HU HL CE
    generalize Lib.compact (srt l) = L at *
    go_wp2
    go_ret
    exact ⟨_, L, rfl, HU2.out, HL2.out, hown3.out, B4⟩
end Go.Proofs.YtjffciejoahegaaDoor
