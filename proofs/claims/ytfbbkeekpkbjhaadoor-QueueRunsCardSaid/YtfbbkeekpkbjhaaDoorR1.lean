/- A queue in memory. -/
import Derived.Test.YtfbbkeekpkbjhaaDoorM2
import Derived.Test.YtfbbkeekpkbjhaaDoorW2
namespace Go.Proofs.YtfbbkeekpkbjhaaDoor
open Go.RowKit
/-- The heap's block: n events in room for cap. -/
def HeapRep (w : World) (g cap n : Nat) (f : Nat → Ev) : Prop := ∃ cur : Array Value, w.heap[g]? = some (.cells cur 30 (0, 0)) ∧ cur.size = cap * 3 ∧ n ≤ cap ∧ cap ≤ maxLen ∧
  ∀ i, i < n → cur[i * 3]? = some (.int .i64 (f i).t) ∧ cur[i * 3 + 1]? = some (.int .i64 (f i).k) ∧ cur[i * 3 + 2]? = some (.int .i64 (f i).d)
def fupd (f : Nat → Ev) (i : Nat) (e : Ev) : Nat → Ev := fun j => if j = i then e else f j
theorem HeapRep.cells {w : World} {g cap n : Nat} {f : Nat → Ev} (h : HeapRep w g cap n f) {i : Nat} (hi : i < n) :
    w.cell? ⟨g, i * 3, none⟩ = some (.int .i64 (f i).t) ∧ w.cell? ⟨g, i * 3 + 1, none⟩ = some (.int .i64 (f i).k) ∧ w.cell? ⟨g, i * 3 + 2, none⟩ = some (.int .i64 (f i).d) := by
  obtain ⟨cur, hb, _, _, _, hc⟩ := h
  have hb' : Blk w g 30 cur := hb
  obtain ⟨h1, h2, h3⟩ := hc i hi
  exact ⟨by rw [hb'.cell, h1], by rw [hb'.cell, h2], by rw [hb'.cell, h3]⟩
theorem HeapRep.frozen {w : World} {g cap n : Nat} {f : Nat → Ev} (h : HeapRep w g cap n f) (i : Nat) : w.frozen? ⟨g, i, none⟩ = false := by
  obtain ⟨cur, hb, _⟩ := h
  exact Blk.frozen (t := 30) (cs := cur) hb i
theorem HeapRep.lt {w : World} {g cap n : Nat} {f : Nat → Ev} (h : HeapRep w g cap n f) : g < w.heap.size := by
  obtain ⟨cur, hb, _⟩ := h
  exact Blk.lt (t := 30) (cs := cur) hb
theorem HeapRep.of_block {w w' : World} {g cap n : Nat} {f : Nat → Ev} (h : HeapRep w g cap n f) (e : w'.heap[g]? = w.heap[g]?) : HeapRep w' g cap n f := by
  obtain ⟨cur, hb, r⟩ := h
  exact ⟨cur, e.trans hb, r⟩
theorem HeapRep.put {w : World} {g cap n : Nat} {f : Nat → Ev} (h : HeapRep w g cap n f) {i : Nat} (hi : i < n) (e : Ev) :
    HeapRep (((w.setCell ⟨g, i * 3, none⟩ (.int .i64 e.t)).setCell ⟨g, i * 3 + 1, none⟩ (.int .i64 e.k)).setCell ⟨g, i * 3 + 2, none⟩ (.int .i64 e.d)) g cap n (fupd f i e) := by
  obtain ⟨cur, hb, hs, hn, hm, hc⟩ := h
  have hb' : Blk w g 30 cur := hb
  have h3 := ((hb'.put (i * 3) (.int .i64 e.t) rfl).put (i * 3 + 1) (.int .i64 e.k) rfl).put (i * 3 + 2) (.int .i64 e.d) rfl
  refine ⟨_, h3, by simp [hs], hn, hm, fun j hj => ?_⟩
  simp only [Array.getElem?_setIfInBounds, Array.size_setIfInBounds, fupd]
  by_cases hji : j = i
  · subst hji
    simp [hs]; omega
  · have : ∀ a b, a < 3 → b < 3 → ¬ (i * 3 + a = j * 3 + b) := fun a b ha hb' => by omega
    rw [if_neg hji]
    obtain ⟨g1, g2, g3⟩ := hc j hj
    refine ⟨?_, ?_, ?_⟩
    · rw [if_neg (by omega), if_neg (by omega), if_neg (by omega)]; exact g1
    · rw [if_neg (by omega), if_neg (by omega), if_neg (by omega)]; exact g2
    · rw [if_neg (by omega), if_neg (by omega), if_neg (by omega)]; exact g3
theorem MapRep.of_block {w w' : World} {r : Nat} {m : Int → Int → Option Nat} (h : MapRep w r m) (e : w'.heap[r]? = w.heap[r]?) : MapRep w' r m := by
  obtain ⟨L, c, hb, hm⟩ := h
  exact ⟨L, c, e.trans hb, hm⟩
theorem MapRep.lt {w : World} {r : Nat} {m : Int → Int → Option Nat} (h : MapRep w r m) : r < w.heap.size := by
  obtain ⟨L, c, hb, hm⟩ := h
  exact (Array.getElem?_eq_some_iff.1 hb).1
/-- A queue that holds (or held) something: its struct at q, its events at g, its map at r. -/
structure QRep (w : World) (q r g cap : Nat) (room : Int) (n : Nat) (f : Nat → Ev) (m : Int → Int → Option Nat) : Prop where
  qb : Blk w q 56 #[.int .i64 room, .slice (some ⟨g, 0, none⟩) n cap, .map (some r)]
  hr : HeapRep w g cap n f
  mr : MapRep w r m
theorem QRep.ne {w : World} {q r g cap : Nat} {room : Int} {n : Nat} {f : Nat → Ev} {m : Int → Int → Option Nat} (h : QRep w q r g cap room n f m) : q ≠ g ∧ q ≠ r ∧ g ≠ r := by
  obtain ⟨qb, ⟨cur, hb, _⟩, ⟨L, c, hm, _⟩⟩ := h
  unfold Blk at qb
  refine ⟨fun e => ?_, fun e => ?_, fun e => ?_⟩
  · subst e; rw [qb] at hb; injection hb with h1; injection h1 with _ h2; cases h2
  · subst e; rw [qb] at hm; cases hm
  · subst e; rw [hb] at hm; cases hm
/-- What a call on a queue leaves alone: all blocks but the three. -/
structure QFr (w w' : World) (q r g : Nat) : Prop where
  os : w'.os = w.os
  tape : w'.tape = w.tape
  output : w'.output = w.output
  size : w.heap.size ≤ w'.heap.size
  block : ∀ k, k < w.heap.size → k ≠ q → k ≠ r → k ≠ g → w'.heap[k]? = w.heap[k]?
theorem QFr.trans {w w1 w2 : World} {q r g : Nat} (h : QFr w w1 q r g) (k : QFr w1 w2 q r g) : QFr w w2 q r g :=
  ⟨k.os.trans h.os, k.tape.trans h.tape, k.output.trans h.output, Nat.le_trans h.size k.size, fun j hj a b c => (k.block j (Nat.lt_of_lt_of_le hj h.size) a b c).trans (h.block j hj a b c)⟩
theorem QFr.of_below {w w1 : World} {q r g : Nat} (h : Below w.heap.size w w1) : QFr w w1 q r g := ⟨h.os, h.tape, h.output, h.size, fun k hk _ _ _ => h.block k hk⟩
theorem QFr.refl (w : World) (q r g : Nat) : QFr w w q r g := QFr.of_below (Below.refl _ _)
theorem QRep.below {w w1 : World} {q r g cap : Nat} {room : Int} {n : Nat} {f : Nat → Ev} {m : Int → Int → Option Nat} (h : QRep w q r g cap room n f m) (k : Below w.heap.size w w1) : QRep w1 q r g cap room n f m :=
  ⟨h.qb.below k, h.hr.of_block (k.block _ h.hr.lt), h.mr.of_block (k.block _ h.mr.lt)⟩
end Go.Proofs.YtfbbkeekpkbjhaaDoor
