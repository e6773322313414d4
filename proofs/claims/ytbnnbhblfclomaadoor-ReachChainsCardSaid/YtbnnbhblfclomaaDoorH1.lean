/- The closure isUp over a slice. -/
import Derived.Test.YtbnnbhblfclomaaDoorE5
namespace Go.Proofs.YtbnnbhblfclomaaDoor
open Go.RowKit
set_option linter.unusedVariables false
theorem bel_cell {w w' : World} {p : Addr} {v : Value} (h : Below w.heap.size w w') (c : w.cell? p = some v) : w'.cell? p = some v := (h.cell (World.block_lt_of_cell? w p c)).trans c
theorem owns_below {w1 w2 : World} {n : Nat} {t : TypeId} {sz : Nat} {v : Value} {xs : List Value} {B : Nat} (h : w1.ownsRow B t sz v n xs) (hb : Below w1.heap.size w1 w2) : w2.ownsRow B t sz v n xs := by
  refine ⟨h.1, h.2.imp id ?_⟩
  rintro ⟨g, cap, cur, e, hB, hg, r⟩
  exact ⟨g, cap, cur, e, hB, (hb.block g (Array.getElem?_eq_some_iff.1 hg).1).trans hg, r⟩
theorem owns_mono {w : World} {B C n : Nat} {t : TypeId} {sz : Nat} {v : Value} {xs : List Value} (h : w.ownsRow B t sz v n xs) (k : C ≤ B) : w.ownsRow C t sz v n xs := by
  refine ⟨h.1, h.2.imp id ?_⟩
  rintro ⟨g, cap, cur, e, hB, r⟩
  exact ⟨g, cap, cur, e, Nat.le_trans k hB, r⟩
/-- A slice of slices of ints that came in, to be read; a slice of bools. -/
def RdLL (w : World) (v : Value) (m : Nat) (LL : List (List Int)) : Prop :=
  (∃ A cap, v = .slice A 0 cap ∧ LL = []) ∨ ∃ g o cap, v = .slice (some ⟨g, o, none⟩) LL.length cap ∧ g < m ∧ ∀ i, i < LL.length → ∃ u, w.cell? ⟨g, o + i, none⟩ = some u ∧ RdI w u m (LL.getD i [])
def RdB (w : World) (v : Value) (m : Nat) (fs : List Bool) : Prop :=
  (∃ A cap, v = .slice A 0 cap ∧ fs = []) ∨ ∃ g o cap, v = .slice (some ⟨g, o, none⟩) fs.length cap ∧ g < m ∧ ∀ i, i < fs.length → w.cell? ⟨g, o + i, none⟩ = some (.bool (fs.getD i false))
theorem RdLL.below {w w1 : World} {v : Value} {n B : Nat} {L : List (List Int)} (h : RdLL w v n L) (hb : Below B w w1) (hn : n ≤ B) : RdLL w1 v n L := by
  rcases h with h | ⟨g, o, cap, e, hg, hc⟩
  · exact .inl h
  · refine .inr ⟨g, o, cap, e, hg, fun i hi => ?_⟩
    obtain ⟨u, h1, h2⟩ := hc i hi
    exact ⟨u, (hb.cell (p := ⟨g, o + i, none⟩) (by simp; omega)).trans h1, h2.below hb hn⟩
theorem RdLL.wider {w : World} {v : Value} {n m : Nat} {L : List (List Int)} (h : RdLL w v n L) (hn : n ≤ m) : RdLL w v m L := by
  rcases h with h | ⟨g, o, cap, e, hg, hc⟩
  · exact .inl h
  · refine .inr ⟨g, o, cap, e, by omega, fun i hi => ?_⟩
    obtain ⟨u, h1, h2⟩ := hc i hi
    exact ⟨u, h1, h2.wider hn⟩
theorem RdLL.form {w : World} {v : Value} {n : Nat} {L : List (List Int)} (h : RdLL w v n L) : ∃ A cap, v = .slice A L.length cap := by
  rcases h with ⟨A, cap, rfl, rfl⟩ | ⟨g, o, cap, e, hg, hc⟩
  · exact ⟨_, _, rfl⟩
  · exact ⟨_, _, e⟩
theorem RdLL.cell {w : World} {A : Option Addr} {c n : Nat} {L : List (List Int)} (h : RdLL w (.slice A L.length c) n L) {i : Nat} (hi : i < L.length) : ∃ g o A2 c2, A = some ⟨g, o, none⟩ ∧ w.cell? ⟨g, o + i, none⟩ = some (.slice A2 (L.getD i []).length c2) ∧ RdI w (.slice A2 (L.getD i []).length c2) n (L.getD i []) := by
  rcases h with ⟨_, _, _, rfl⟩ | ⟨g, o, cap, e, hg, hc⟩
  · simp at hi
  · cases e
    obtain ⟨u, h1, h2⟩ := hc i hi
    obtain ⟨A2, c2, rfl⟩ := h2.form
    exact ⟨g, o, A2, c2, rfl, h1, h2⟩
theorem RdB.below {w w1 : World} {v : Value} {n B : Nat} {L : List Bool} (h : RdB w v n L) (hb : Below B w w1) (hn : n ≤ B) : RdB w1 v n L := by
  rcases h with h | ⟨g, o, cap, e, hg, hc⟩
  · exact .inl h
  · exact .inr ⟨g, o, cap, e, hg, fun i hi => (hb.cell (p := ⟨g, o + i, none⟩) (by simp; omega)).trans (hc i hi)⟩
theorem RdB.wider {w : World} {v : Value} {n m : Nat} {L : List Bool} (h : RdB w v n L) (hn : n ≤ m) : RdB w v m L := by
  rcases h with h | ⟨g, o, cap, e, hg, hc⟩
  · exact .inl h
  · exact .inr ⟨g, o, cap, e, by omega, hc⟩
theorem RdB.form {w : World} {v : Value} {n : Nat} {L : List Bool} (h : RdB w v n L) : ∃ A cap, v = .slice A L.length cap := by
  rcases h with ⟨A, cap, rfl, rfl⟩ | ⟨g, o, cap, e, hg, hc⟩
  · exact ⟨_, _, rfl⟩
  · exact ⟨_, _, e⟩
theorem RdB.cell {w : World} {A : Option Addr} {c n : Nat} {L : List Bool} (h : RdB w (.slice A L.length c) n L) {i : Nat} (hi : i < L.length) : ∃ g o, A = some ⟨g, o, none⟩ ∧ w.cell? ⟨g, o + i, none⟩ = some (.bool (L.getD i false)) := by
  rcases h with ⟨_, _, _, rfl⟩ | ⟨g, o, cap, e, hg, hc⟩
  · simp at hi
  · cases e; exact ⟨g, o, rfl, hc i hi⟩
theorem RdI.cell {w : World} {A : Option Addr} {c n : Nat} {L : List Int} (h : RdI w (.slice A L.length c) n L) {i : Nat} (hi : i < L.length) : ∃ g o, A = some ⟨g, o, none⟩ ∧ w.cell? ⟨g, o + i, none⟩ = some (.int .i64 (L.getD i 0)) := by
  rcases h with ⟨_, _, _, _, rfl⟩ | ⟨g, o, cap, e, hg, hc⟩
  · simp at hi
  · cases e; exact ⟨g, o, rfl, hc i hi⟩
/-- What the closure isUp reads: block gc holds the slice, block go its n cells. -/
structure UpAt (w : World) (gc go n : Nat) (f : Nat → Int) : Prop where
  c : w.cell? ⟨gc, 0, none⟩ = some (.slice (some ⟨go, 0, none⟩) n n)
  o : ∀ p, p < n → w.cell? ⟨go, p, none⟩ = some (.int .i64 (f p))
set_option maxRecDepth 100000 in
theorem isUp_walk (gc go n p : Nat) (f : Nat → Int) (w : World) (h : UpAt w gc go n f) (hp : p < n) (hn : n ≤ 1024) :
    Calls Tryd.prog 21 #[.int .i64 p, .pointer (some ⟨gc, 0, none⟩)] w fun x w' => x = .returned (.bool (f p == 0)) ∧ w' = w := by
  have c0 := h.c
  have c1 := h.o p hp
  have z0 := World.block_lt_of_cell? _ _ c0
  have z1 := World.block_lt_of_cell? _ _ c1
  have p0 : (0 : Int) ≤ p := by omega
  have p1 : (p : Int) < n := by omega
  generalize f p = x at *
  clear h
  go_enter Tryd.func21, Tryd.ntmps21
  go_wp2_with (fail)
  go_ret
  exact ⟨rfl, by first | rfl | trivial⟩
set_option maxRecDepth 100000 in
set_option maxHeartbeats 400000 in
theorem indexUp_walk (gc go n : Nat) (f : Nat → Int) (v : Value) (l : List Int) (w : World) (h : UpAt w gc go n f) (hl : RdI w v w.heap.size l) (hp : ∀ p, p ∈ l → 0 ≤ p ∧ p < (n : Int)) (hn : n ≤ 1024) (hll : l.length ≤ 65536) :
    Calls Tryd.prog 36 #[v, .func (.func 21) #[] #[.pointer (some ⟨gc, 0, none⟩)]] w fun x w' => (∃ r : Int, x = .returned (.int .i64 r) ∧ (0 ≤ r ↔ l.any (fun p => f p.toNat == 0) = true)) ∧ w' = w := by
  obtain ⟨A, cap, rfl⟩ := hl.form
  have HI := Lib.hid hl
  have HP := Lib.hid hp
  have UW := Lib.hid (fun p hp => isUp_walk gc go n p f w h hp hn)
  clear hl hp h
  go_enter Tryd.func36, Tryd.ntmps36
  go_upto_region 2 with (fail)
  go_loopw [8] (fun iv wr => ∃ k : Nat, iv = .int .i64 k ∧ k ≤ l.length ∧ (∀ j, j < k → (f (l.getD j 0).toNat == 0) = false) ∧ wr = w) (fun iv _ => l.length - (intOf iv).toNat)
  case atStart => exact ⟨0, rfl, Nat.zero_le _, fun j hj => by omega, rfl⟩
  case round =>
    obtain ⟨k, rfl, hk, hno, rfl⟩ := hrel
    have HN := Lib.hid hno
    clear hno
    by_cases hkm : k < l.length
    · have d0 : (k : Int) < (l.length : Int) := by omega
      obtain ⟨g, o, rfl, c0⟩ := HI.out.cell hkm
      have z0 := World.block_lt_of_cell? _ _ c0
      have hmem : l.getD k 0 ∈ l := by rw [List.getD_eq_getElem?_getD, List.getElem?_eq_getElem hkm]; exact List.getElem_mem _
      obtain ⟨p0, p1⟩ := HP.out _ hmem
      obtain ⟨q, hq⟩ : ∃ q : Nat, l.getD k 0 = q := ⟨(l.getD k 0).toNat, by omega⟩
      rw [hq] at c0 hmem p1
      have HQ := Lib.hid hq
      have HM := Lib.hid hmem
      have IW := Lib.hid (UW.out q (by omega))
      have i0 : (0 : Int) ≤ k := by omega
      clear hq p0 p1 hmem
      go_wp2_with (fail)
      refine IW.out.mono ?_
      rintro x w2 ⟨rfl, rfl⟩
      cases hr : (f q == 0) with
      | true =>
        have HA := Lib.hid (show l.any (fun p => f p.toNat == 0) = true by rw [List.any_eq_true]; exact ⟨_, HM.out, hr⟩)
        clear hr
        go_wp2
        go_ret
        exact ⟨⟨k, rfl, by simp [HA.out]⟩, by first | rfl | trivial⟩
      | false =>
        have HR := Lib.hid hr
        clear hr
        go_wp2
        go_roundw
        case rel => exact ⟨k + 1, by go_num, by omega, fun j hj => by
          by_cases h : j = k
          · subst h; rw [HQ.out]; exact HR.out
          · exact HN.out j (by omega), by first | rfl | trivial⟩
        case measure => simp [intOf]; omega
    · have d0 : ¬ (k : Int) < (l.length : Int) := by omega
      have HA := Lib.hid (show ¬ l.any (fun p => f p.toNat == 0) = true by
        rw [List.any_eq_true]
        rintro ⟨e, he, ha⟩
        obtain ⟨j, hj, rfl⟩ := List.mem_iff_getElem.1 he
        have := HN.out j (by omega)
        rw [List.getD_eq_getElem?_getD, List.getElem?_eq_getElem hj, Option.getD_some] at this
        rw [this] at ha
        cases ha)
      go_wp2
      go_ret
      refine ⟨⟨-1, rfl, ?_⟩, by first | rfl | trivial⟩
      constructor
      · intro h; omega
      · intro h
        refine absurd ?_ HA.out
        first
          | exact h
          | simpa using h
theorem containsUp_walk (gc go n : Nat) (f : Nat → Int) (v : Value) (l : List Int) (w : World) (h : UpAt w gc go n f) (hl : RdI w v w.heap.size l) (hp : ∀ p, p ∈ l → 0 ≤ p ∧ p < (n : Int)) (hn : n ≤ 1024) (hll : l.length ≤ 65536) :
    Calls Tryd.prog 22 #[v, .func (.func 21) #[] #[.pointer (some ⟨gc, 0, none⟩)]] w fun x w' => x = .returned (.bool (l.any (fun p => f p.toNat == 0))) ∧ w' = w := by
  have IX := Lib.hid (indexUp_walk gc go n f v l w h hl hp hn hll)
  obtain ⟨A, cap, rfl⟩ := hl.form
  clear hp h hl
  go_enter Tryd.func22, Tryd.ntmps22
  go_wp2_with (fail)
  refine IX.out.mono ?_
  rintro x w2 ⟨⟨r, rfl, hr⟩, rfl⟩
  have d0 : decide (0 ≤ r) = l.any (fun p => f p.toNat == 0) := by
    cases h : l.any (fun p => f p.toNat == 0)
    · exact decide_eq_false (by rw [hr, h]; simp)
    · exact decide_eq_true (by rw [hr, h])
  clear hr
  go_wp2
  go_ret
  exact ⟨by first | trivial | rfl, by first | rfl | trivial⟩
end Go.Proofs.YtbnnbhblfclomaaDoor
