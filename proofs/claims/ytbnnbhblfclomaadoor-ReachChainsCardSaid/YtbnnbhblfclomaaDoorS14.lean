/- The slices of places that places lead to, while they are filled, and behind. -/
import Derived.Test.YtbnnbhblfclomaaDoorW1
import Derived.Test.YtbnnbhblfclomaaDoorHeldTail
import Derived.Deep.AppendLies
namespace Go.Proofs.YtbnnbhblfclomaaDoor
open Go.RowKit
set_option linter.unusedSimpArgs false
set_option linter.unusedVariables false
def nats (l : List Nat) : List Value := l.map fun (x : Nat) => Value.int .i64 (x : Int)
theorem nats_len (l : List Nat) : (nats l).length = l.length := by unfold nats; simp
theorem nats_snoc (l : List Nat) (x : Nat) : nats (l ++ [x]) = nats l ++ [.int .i64 (x : Int)] := by unfold nats; simp
theorem nats_get {l : List Nat} {j x : Nat} (h : l[j]? = some x) : (nats l)[j]? = some (.int .i64 (x : Int)) := by unfold nats; simp [h]
/-- A slice of numbers that is only read. -/
def Reads (w : World) (v : Value) (l : List Nat) : Prop :=
  ∃ A cap, v = .slice A l.length cap ∧ ((A = none ∧ cap = 0 ∧ l = []) ∨ ∃ g o, A = some ⟨g, o, none⟩ ∧ g < w.heap.size ∧ ∀ (j x : Nat), l[j]? = some x → w.cell? ⟨g, o + j, none⟩ = some (.int .i64 (x : Int)))
theorem Reads.below {w w1 : World} {v : Value} {l : List Nat} (h : Reads w v l) (hb : Below w.heap.size w w1) : Reads w1 v l := by
  obtain ⟨A, cap, h0, h1⟩ := h
  refine ⟨A, cap, h0, h1.imp id ?_⟩
  rintro ⟨g, o, e, hl, hc⟩
  exact ⟨g, o, e, Nat.lt_of_lt_of_le hl hb.size, fun j x hj => (hb.cell (p := ⟨g, o + j, none⟩) hl).trans (hc j x hj)⟩
theorem Reads.of_owns {w : World} {B : Nat} {v : Value} {l : List Nat} (h : w.ownsRow B 3 1 v l.length (nats l)) : Reads w v l := by
  rcases h.2 with ⟨rfl, h0⟩ | ⟨g, cap, cur, rfl, hb, hg, hn, _⟩
  · have : l = [] := List.eq_nil_of_length_eq_zero h0
    subst this
    exact ⟨none, 0, rfl, .inl ⟨rfl, rfl, rfl⟩⟩
  · refine ⟨_, cap, rfl, .inr ⟨g, 0, rfl, ?_, fun j x hj => ?_⟩⟩
    · exact (Array.getElem?_eq_some_iff.1 hg).1
    · obtain ⟨hlt, _⟩ := List.getElem?_eq_some_iff.1 hj
      rw [show 0 + j = j by omega, h.cellAt j (by omega)]
      exact nats_get hj
/-- The block of a slice of slices while it is filled. -/
structure SOwn (w : World) (so n : Nat) (E : Ways) (hd : Nat → Value) : Prop where
  row : ∃ cs, Blk w so 26 cs ∧ cs.size = n ∧ ∀ x, x < n → cs[x]? = some (hd x)
  own : ∀ x, x < n → w.ownsRow (so + 1) 3 1 (hd x) (sideL E x).length (nats (sideL E x))
  dis : ∀ x y k, x < n → y < n → x ≠ y → (hd x).ownBlock = some k → (hd y).ownBlock ≠ some k
/-- .. and behind that, when it is only read. -/
def Sides (w : World) (so n : Nat) (E : Ways) : Prop := so < w.heap.size ∧ ∀ x, x < n → ∃ v, w.cell? ⟨so, x, none⟩ = some v ∧ Reads w v (sideL E x)
theorem Sides.below {w w1 : World} {so n : Nat} {E : Ways} (h : Sides w so n E) (hb : Below w.heap.size w w1) : Sides w1 so n E := by
  refine ⟨Nat.lt_of_lt_of_le h.1 hb.size, fun x hx => ?_⟩
  obtain ⟨v, hv, hr⟩ := h.2 x hx
  exact ⟨v, (hb.cell (p := ⟨so, x, none⟩) h.1).trans hv, hr.below hb⟩
theorem SOwn.sides {w : World} {so n : Nat} {E : Ways} {hd : Nat → Value} (h : SOwn w so n E hd) : Sides w so n E := by
  obtain ⟨⟨cs, hb, hs, hc⟩, ho, _⟩ := h
  exact ⟨hb.lt, fun x hx => ⟨hd x, by rw [hb.cell]; exact hc x hx, Reads.of_owns (ho x hx)⟩⟩
theorem owns_far {w w1 : World} {B : Nat} {v : Value} {n : Nat} {xs : List Value} (h : w.ownsRow B 3 1 v n xs) (hk : ∀ k, v.ownBlock = some k → w1.heap[k]? = w.heap[k]?) : w1.ownsRow B 3 1 v n xs := by
  rcases h.2 with ⟨rfl, h0⟩ | ⟨g, cap, cur, rfl, hb, hg, hr⟩
  · exact ⟨h.1, .inl ⟨rfl, h0⟩⟩
  · exact ⟨h.1, .inr ⟨g, cap, cur, rfl, hb, (hk g rfl).trans hg, hr⟩⟩
theorem SOwn.block {w w1 : World} {so n : Nat} {E : Ways} {hd : Nat → Value} (h : SOwn w so n E hd) (hk : ∀ k, so ≤ k → k < w.heap.size → w1.heap[k]? = w.heap[k]?) : SOwn w1 so n E hd := by
  obtain ⟨⟨cs, hb, hs, hc⟩, ho, hd'⟩ := h
  refine ⟨⟨cs, (hk so (Nat.le_refl _) hb.lt).trans hb, hs, hc⟩, fun x hx => owns_far (ho x hx) fun k e => ?_, hd'⟩
  have := (ho x hx).lt k e
  exact hk k (by omega) this.2
def updV (f : Nat → Value) (a : Nat) (v : Value) : Nat → Value := fun x => if x = a then v else f x
theorem SOwn.push {w w1 : World} {so n a b g cap : Nat} {E : Ways} {hd : Nat → Value} (h : SOwn w so n E hd) (ha : a < n)
    (ho : w1.ownsRow (so + 1) 3 1 (.slice (some ⟨g, 0, none⟩) ((sideL E a).length + 1) cap) ((sideL E a).length + 1) (nats (sideL E a) ++ [.int .i64 (b : Int)]))
    (hg : w.grownBy w1 (hd a).ownBlock) (hl : (hd a).ownBlock = some g ∨ w.heap.size ≤ g) :
    SOwn (w1.setCell ⟨so, a, none⟩ (.slice (some ⟨g, 0, none⟩) ((sideL E a).length + 1) cap)) so n (E ++ [(a, b)]) (updV hd a (.slice (some ⟨g, 0, none⟩) ((sideL E a).length + 1) cap)) := by
  obtain ⟨⟨cs, hb, hs, hc⟩, hO, hD⟩ := h
  have gso : so + 1 ≤ g := (ho.lt g rfl).1
  have hso : some so ≠ (hd a).ownBlock := fun e => by have := ((hO a ha).lt so e.symm).1; omega
  have hb1 : Blk w1 so 26 cs := (hg.block so hb.lt hso).trans hb
  have other : ∀ x k, x < n → x ≠ a → (hd x).ownBlock = some k → k ≠ g ∧ k ≠ so ∧ w1.heap[k]? = w.heap[k]? := by
    intro x k hx hxa e
    have hk := (hO x hx).lt k e
    have hne := hD x a k hx ha hxa e
    refine ⟨fun q => ?_, by omega, hg.block k hk.2 (Ne.symm hne)⟩
    subst q
    rcases hl with hl | hl
    · exact hne hl
    · omega
  refine ⟨⟨cs.setIfInBounds a (.slice (some ⟨g, 0, none⟩) ((sideL E a).length + 1) cap), hb1.put a _ rfl, by simpa using hs, fun x hx => ?_⟩, fun x hx => ?_, fun x y k hx hy hxy => ?_⟩
  · unfold updV
    by_cases c : x = a
    · subst c
      rw [if_pos rfl, Array.getElem?_setIfInBounds_self_of_lt (by omega)]
    · rw [if_neg c, Array.getElem?_setIfInBounds_ne (Ne.symm c)]; exact hc x hx
  · rw [sideL_snoc]
    unfold updV
    by_cases c : x = a
    · subst c
      rw [if_pos rfl, if_pos rfl]
      have : (sideL E x ++ [b]).length = (sideL E x).length + 1 := by simp
      rw [this, nats_snoc]
      exact owns_far ho fun k e => Below.heap_setCell _ _ _ _ (by have : g = k := by simpa [Value.ownBlock] using e
                                                                  show k ≠ so
                                                                  omega)
    · rw [if_neg c, if_neg (Ne.symm c)]
      refine owns_far (hO x hx) fun k e => ?_
      obtain ⟨o1, o2, o3⟩ := other x k hx c e
      rw [Below.heap_setCell _ _ _ _ (show k ≠ so from o2)]; exact o3
  · unfold updV
    by_cases c : x = a
    · subst c
      rw [if_pos rfl, if_neg (Ne.symm hxy)]
      intro e e2
      have : g = k := by simpa [Value.ownBlock] using e
      exact (other y k hy (Ne.symm hxy) e2).1 this.symm
    · rw [if_neg c]
      intro e
      by_cases c2 : y = a
      · rw [if_pos c2]
        intro e2
        have : g = k := by simpa [Value.ownBlock] using e2
        exact (other x k hx c e).1 this.symm
      · rw [if_neg c2]; exact hD x y k hx hy hxy e
theorem info3 : (Tryd.prog.info? 3).map (fun i => (i.zero, i.size, i.bytes)) = some (some (.int .i64 0), 1, 8) := by kernel_rfl
theorem info32 : (Tryd.prog.info? 26).map (fun i => (i.zero, i.size, i.bytes)) = some (some (.slice none 0 0), 1, 24) := by kernel_rfl
def castE (E : Ways) : List (Int × Int) := E.map fun e => ((e.1 : Int), (e.2 : Int))
theorem castE_len (E : Ways) : (castE E).length = E.length := by unfold castE; simp
theorem castE_get {E : Ways} {i a b : Nat} (h : E[i]? = some (a, b)) : (castE E).getD i (0, 0) = ((a : Int), (b : Int)) := by
  unfold castE
  rw [List.getD_eq_getElem?_getD, List.getElem?_map, h]; rfl
end Go.Proofs.YtbnnbhblfclomaaDoor
