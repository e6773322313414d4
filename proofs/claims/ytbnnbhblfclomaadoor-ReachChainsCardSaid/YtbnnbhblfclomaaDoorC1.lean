/- Compact of a sorted slice. -/
import Derived.Test.YtbnnbhblfclomaaDoorE5
namespace Go.Proofs.YtbnnbhblfclomaaDoor
open Go.RowKit
set_option linter.unusedVariables false
open Go.Shelf Go.Sort
set_option maxRecDepth 100000 in
set_option maxHeartbeats 1000000 in
/-- Compact of a sorted slice of one's own. -/
theorem comp_walk (v : Value) (l : List Int) (hlen : l.length ≤ 65536) (w : World) (B : Nat) (hB : B ≤ w.heap.size) (hown : w.ownsRow B 3 1 v l.length ((srt l).map (Value.int .i64))) :
    Calls Tryd.prog 17 #[v] w fun x w' => ∃ v' L, x = .returned v' ∧ Up L l ∧ L.length ≤ l.length ∧ w'.ownsRow B 3 1 v' L.length (cellsI L) ∧ Below B w w' := by
  have hU : Up (Lib.compact (srt l)) l := compact_up l
  have hL := comp_len l
  rcases hown.2 with ⟨rfl, h0⟩ | ⟨g, cp, cur, rfl, hBg, hb, hn, hcm, hcs, ht⟩
  · have hl := List.eq_nil_of_length_eq_zero h0
    subst hl
    refine (Any.slices_Compact_int_empty Tryd.compactInt none 0 w).mono ?_
    rintro x w3 ⟨rfl, rfl⟩
    exact ⟨_, [], rfl, ⟨List.Pairwise.nil, fun x => Iff.rfl⟩, Nat.le_refl _, ⟨rfl, .inl ⟨rfl, rfl⟩⟩, Below.refl _ _⟩
  · have hH := holds_of_blockI (ss := srt l) hb (by rw [srt_len]; rw [Nat.mul_one] at ht; exact ht)
    have CE := Any.slices_Compact_int Tryd.compactInt g 0 cp (srt l) w hH (by rw [srt_len]; omega) (by rw [srt_len]; exact hn)
    rw [srt_len] at CE
    refine CE.mono ?_
    rintro x w3 ⟨rfl, q, rfl⟩
    generalize hts : Lib.compact (srt l) ++ List.replicate (l.length - (Lib.compact (srt l)).length) 0 = ts
    have htl : ts.length = l.length := by rw [← hts]; simp; omega
    have hown2 := ownsRow_sortedI (n := q) (os := #[]) (ss := l) (ts := ts) htl hBg hb hn hcm hcs
    have B4 := below_grown' (Below.refl B w) (grownBy_sortedI (w := w) (g := g) (n := q) (os := #[]) ts.toArray) (fun k e => by cases e; exact hBg) hB
    rw [grow_empty] at hown2 B4
    have hown3 : (putRow (Value.int .i64) (Sort.ahead w q) g 0 ts.toArray).ownsRow B 3 1 (.slice (some ⟨g, 0, none⟩) (Lib.compact (srt l)).length cp) (Lib.compact (srt l)).length ((Lib.compact (srt l)).map (Value.int .i64)) := by
      refine ⟨by simp, ?_⟩
      rcases hown2.2 with ⟨e, _⟩ | ⟨g', cp', cur', e, b1, b2, b3, b4, b5, b6⟩
      · cases e
      · cases e
        refine .inr ⟨_, _, cur', rfl, b1, b2, by omega, b4, b5, ?_⟩
        rw [Nat.mul_one] at b6 ⊢
        have : (cur'.toList.take l.length).take (Lib.compact (srt l)).length = (ts.map (Value.int .i64)).take (Lib.compact (srt l)).length := by rw [b6]
        rw [List.take_take, Nat.min_eq_left hL] at this
        rw [this, ← List.map_take, ← hts, List.take_left' rfl]
    exact ⟨_, _, rfl, hU, hL, hown3, B4⟩
end Go.Proofs.YtbnnbhblfclomaaDoor
