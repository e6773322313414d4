/- A map of counts by texts; rows of texts. -/
import Derived.Test.YtacajmknlknjkaaDoorA2
import Derived.Test.YtacajmknlknjkaaDoorP2
import Derived.Maps.Own
import Derived.Maps.Views
import Derived.StringKeys
namespace Go.Proofs.YtacajmknlknjkaaDoor
open Go.RowKit
set_option linter.unusedVariables false
open Go.Maps Go.WideMaps
theorem lawS : Keyed Tryd.prog 9 := string_keyed Tryd.underlying9
theorem zero3 (w : World) : (zeroValue 3).run Tryd.prog w = .ok (.int .i64 0) w := by kernel_rfl
/-- A map of counts by texts, in block b. -/
def MapSI (w : World) (b n : Nat) (cnt : List UInt8 → Int) : Prop :=
  ∃ D : DataW Unit, IsMap D ∧ w.ownsMap Tryd.prog 9 (plainElem Tryd.prog 3) b n D ∧ ∀ x, D.atKey (.string x) (.lit (.int .i64 0)) = .lit (.int .i64 (cnt x))
theorem MapSI.new (w : World) : MapSI (w.alloc (.map #[] 0)) w.heap.size 0 (fun _ => 0) := ⟨.map [], isMap_empty, World.ownsMap_made _ _ _ _, fun _ => rfl⟩
theorem MapSI.lt {w : World} {b n : Nat} {cnt : List UInt8 → Int} (h : MapSI w b n cnt) : b < w.heap.size := by
  obtain ⟨D, _, h, _⟩ := h; exact h.lt
theorem MapSI.look {w : World} {b n : Nat} {cnt : List UInt8 → Int} (h : MapSI w b n cnt) (s : ByteArray) (hs : s.size ≤ maxLen) : (Instr.lookup 63 (.map (some b)) (.string s) false).run Tryd.prog w = .ok (.int .i64 (cnt s.data.toList)) w := by
  obtain ⟨D, _, ho, hc⟩ := h
  obtain ⟨c, hrun, hat, _⟩ := ho.lookup_int lawS Tryd.underlying63 Tryd.underlying3 (zero3 _) (keyOf_string_mk Tryd.underlying9 hs)
  rw [hc] at hat
  cases hat
  exact hrun
theorem MapSI.put {w : World} {b n : Nat} {cnt : List UInt8 → Int} (h : MapSI w b n cnt) (hn : n < maxLen) (s : ByteArray) (hs : s.size ≤ maxLen) (c : Int) (hw : (Lit.int .i64 c).wf = true) :
    ∃ w', (Instr.mapUpdate 63 (.map (some b)) (.string s) (.int .i64 c)).run Tryd.prog w = .ok () w' ∧ MapSI w' b (n + 1) (fun x => if x = s.data.toList then c else cnt x) ∧ w.grownBy w' (some b) := by
  obtain ⟨D, hD, ho, hc⟩ := h
  obtain ⟨w', hrun, ho', hg⟩ := ho.update lawS Tryd.underlying63 hn (keyOf_string_mk Tryd.underlying9 hs) (plainElem_int Tryd.underlying3 hw)
  refine ⟨w', hrun, ⟨_, ?_, ho', fun x => ?_⟩, hg⟩
  · obtain ⟨es, rfl⟩ := hD
    exact ⟨_, rfl⟩
  · show _ = DataW.lit (.int .i64 (if x = s.data.toList then c else cnt x))
    by_cases hx : x = s.data.toList
    · subst hx; rw [if_pos rfl, atKey_put_same (k := .string s.data.toList) hD trivial]
    · rw [if_neg hx, atKey_put_other (by simpa using hx), hc]
theorem MapSI.kept {w w' : World} {b n : Nat} {cnt : List UInt8 → Int} {row : Option Nat} (h : MapSI w b n cnt) (hg : w.grownBy w' row) (hne : some b ≠ row) : MapSI w' b n cnt := by
  obtain ⟨D, hD, ho, hc⟩ := h
  exact ⟨D, hD, ho.kept hg hne, hc⟩
theorem MapSI.alloc {w : World} {b n : Nat} {cnt : List UInt8 → Int} (h : MapSI w b n cnt) (o : Obj) : MapSI (w.alloc o) b n cnt := by
  obtain ⟨D, hD, ho, hc⟩ := h
  exact ⟨D, hD, ho.alloc o, hc⟩
theorem row_kept {w w' : World} {B n : Nat} {t : TypeId} {sz : Nat} {v : Value} {xs : List Value} {row : Option Nat} (h : w.ownsRow B t sz v n xs) (hg : w.grownBy w' row) (hne : v.ownBlock ≠ row ∨ v.ownBlock = none) : w'.ownsRow B t sz v n xs := by
  refine ⟨h.1, h.2.imp id ?_⟩
  rintro ⟨g, cap, cur, rfl, hB, hb, r⟩
  refine ⟨g, cap, cur, rfl, hB, ?_, r⟩
  rw [hg.block g (Array.getElem?_eq_some_iff.1 hb).1 ?_]
  · exact hb
  · rcases hne with h | h
    · exact h
    · cases h
/-- Texts in a row of one's own. -/
def cellsS (L : List ByteArray) : List Value := L.map Value.string
theorem cellsS_len (L : List ByteArray) : (cellsS L).length = L.length * 1 := by simp [cellsS]
theorem cellsS_snoc (L : List ByteArray) (s : ByteArray) : cellsS (L ++ [s]) = cellsS L ++ [.string s] := by simp [cellsS]
/-- A slice of texts, to be read. -/
def RdS (w : World) (v : Value) (m : Nat) (L : List ByteArray) : Prop :=
  (v = .slice none 0 0 ∧ L = []) ∨ ∃ g cap, v = .slice (some ⟨g, 0, none⟩) L.length cap ∧ L.length ≤ cap ∧ g < m ∧ ∀ i, i < L.length → w.cell? ⟨g, i, none⟩ = some (.string (L.getD i ByteArray.empty))
theorem RdS.of_owns {w : World} {B n m : Nat} {t : TypeId} {v : Value} {L : List ByteArray} (h : w.ownsRow B t 1 v n (cellsS L)) (hl : L.length = n) (hm : w.heap.size ≤ m) : RdS w v m L := by
  subst hl
  rcases h.2 with ⟨e, c⟩ | ⟨g, cap, cur, e, hB, hb, h1, h2, h3, h4⟩
  · exact .inl ⟨e, List.length_eq_zero_iff.1 c⟩
  · have hb' : Blk w g t cur := hb
    refine .inr ⟨g, cap, e, h1, by have := hb'.lt; omega, fun i hi => ?_⟩
    have e0 : (cellsS L)[i]? = some (.string (L.getD i ByteArray.empty)) := by
      simp [cellsS, List.getD_eq_getElem?_getD, List.getElem?_eq_getElem hi]
    rw [← h4, List.getElem?_take_of_lt (by omega), Array.getElem?_toList] at e0
    rw [hb'.cell, e0]
theorem RdS.below {w w1 : World} {v : Value} {n B : Nat} {L : List ByteArray} (h : RdS w v n L) (hb : Below B w w1) (hn : n ≤ B) : RdS w1 v n L := by
  rcases h with h | ⟨g, cap, e, h1, hg, hc⟩
  · exact .inl h
  · exact .inr ⟨g, cap, e, h1, hg, fun i hi => (hb.cell (p := ⟨g, i, none⟩) (by simp; omega)).trans (hc i hi)⟩
theorem RdS.wider {w : World} {v : Value} {n m : Nat} {L : List ByteArray} (h : RdS w v n L) (hn : n ≤ m) : RdS w v m L := by
  rcases h with h | ⟨g, cap, e, h1, hg, hc⟩
  · exact .inl h
  · exact .inr ⟨g, cap, e, h1, by omega, hc⟩
theorem RdS.form {w : World} {v : Value} {n : Nat} {L : List ByteArray} (h : RdS w v n L) : ∃ A cap, v = .slice A L.length cap := by
  rcases h with ⟨rfl, rfl⟩ | ⟨g, cap, e, h1, hg, hc⟩
  · exact ⟨_, _, rfl⟩
  · exact ⟨_, _, e⟩
theorem info9 : (Tryd.prog.info? 9).map (fun i => (i.zero, i.size, i.bytes)) = some (some (.string ByteArray.empty), 1, 16) := by kernel_rfl
theorem takeS_succ {L : List ByteArray} {k : Nat} (h : k < L.length) : L.take (k + 1) = L.take k ++ [L.getD k ByteArray.empty] := by
  rw [List.take_add_one, List.getElem?_eq_getElem h, List.getD_eq_getElem?_getD, List.getElem?_eq_getElem h]; rfl
end Go.Proofs.YtacajmknlknjkaaDoor
