/- Sorted and List walked. -/
import Derived.Test.YtfbbkeekpkbjhaaDoorT1q
import Derived.Test.YtfbbkeekpkbjhaaDoorListSort
import Derived.Shelf.SlSortCmp.NoneTotal
namespace Go.Proofs.YtfbbkeekpkbjhaaDoor
open Go.RowKit
open Go.Shelf Go.Sort
theorem cellsE_get : ∀ (l : List Ev) (j : Nat) (e : Ev), l[j]? = some e → (cellsE l)[j * 3]? = some (.int .i64 e.t) ∧ (cellsE l)[j * 3 + 1]? = some (.int .i64 e.k) ∧ (cellsE l)[j * 3 + 2]? = some (.int .i64 e.d)
  | [], j, e, h => by simp at h
  | x :: r, 0, e, h => by simp at h; subst h; exact ⟨rfl, rfl, rfl⟩
  | x :: r, j + 1, e, h => by
    have := cellsE_get r j e (by simpa using h)
    have hc : cellsE (x :: r) = [.int .i64 x.t, .int .i64 x.k, .int .i64 x.d] ++ cellsE r := rfl
    rw [hc, List.getElem?_append_right (by simp; omega), List.getElem?_append_right (by simp; omega), List.getElem?_append_right (by simp; omega)]
    simpa [show (j + 1) * 3 - 3 = j * 3 by omega, show (j + 1) * 3 + 1 - 3 = j * 3 + 1 by omega, show (j + 1) * 3 + 2 - 3 = j * 3 + 2 by omega] using this
theorem flat_get (d : Array Ev) (t : Nat) (h : t < d.size * 3) : (cellsE d.toList)[t]? = some (flatK encE 3 d)[t]! := by
  rw [get_flatK _ _ _ _ h]
  have hq : t / 3 < d.size := by omega
  obtain ⟨h0, h1, h2⟩ := cellsE_get d.toList (t / 3) d[t / 3]! (by rw [Array.getElem?_toList, getElem!_pos d _ hq, Array.getElem?_eq_getElem hq])
  have hr : t % 3 = 0 ∨ t % 3 = 1 ∨ t % 3 = 2 := by omega
  rcases hr with c | c | c
  · rw [c, show t = t / 3 * 3 by omega]
    rw [show t / 3 * 3 / 3 = t / 3 by omega]; exact h0
  · rw [c]
    have : t = t / 3 * 3 + 1 := by omega
    rw [this, show (t / 3 * 3 + 1) / 3 = t / 3 by omega]; exact h1
  · rw [c]
    have : t = t / 3 * 3 + 2 := by omega
    rw [this, show (t / 3 * 3 + 2) / 3 = t / 3 by omega]; exact h2
theorem heap_sorted_id {w : World} {g n : Nat} {os : Array Obj} {cur : Array Value} {e : TypeId} {fr : Nat × Nat} (d : Array Value) (hb : w.heap[g]? = some (.cells cur e fr)) :
    (grow (putRow id (Sort.ahead w n) g 0 d) os).heap[g]? = some (.cells (putCells id 0 d cur) e fr) := by
  have hg : g < w.heap.size := (Array.getElem?_eq_some_iff.1 hb).1
  rw [heap_grow_old _ _ (by simpa using hg)]
  simp [putRow, mapBlock, Sort.ahead, Array.getElem?_modify, hb, onCells]
theorem grownBy_sorted_id {w : World} {g n : Nat} {os : Array Obj} (d : Array Value) : w.grownBy (grow (putRow id (Sort.ahead w n) g 0 d) os) (some g) := by
  refine ⟨rfl, rfl, rfl, by simp, fun k hk hne => ?_⟩
  rw [heap_grow_old _ _ (by simpa using hk)]
  have : g ≠ k := fun e => hne (by rw [e])
  simp [putRow, mapBlock, Sort.ahead, Array.getElem?_modify, this]
/-- A sorted list of events. -/
def Asc (L : List Ev) : Prop := L.Pairwise (fun a b => ¬ ltE b a)
theorem sorted_own {w : World} {B g cap n : Nat} {os : Array Obj} {cur : Array Value} (l : List Ev) (d : Array Ev) (hl : d.size = l.length) (hB : B ≤ g) (hb : w.heap[g]? = some (.cells cur 30 (0, 0))) (h1 : l.length ≤ cap) (h2 : cap ≤ maxLen) (h3 : cur.size = cap * 3) :
    (sortWorldK encE 3 w g 0 n d os).ownsRow B 30 3 (.slice (some ⟨g, 0, none⟩) l.length cap) l.length (cellsE d.toList) := by
  refine ⟨by rw [cellsE_len, Array.length_toList, hl], .inr ⟨g, cap, _, rfl, hB, heap_sorted_id _ hb, h1, h2, by simp [putCells, h3], ?_⟩⟩
  apply List.ext_getElem?
  intro j
  by_cases hj : j < l.length * 3
  · rw [List.getElem?_take_of_lt hj, Array.getElem?_toList, flat_get d j (by rw [hl]; exact hj)]
    simp [putCells, hl, hj, show j < cur.size by omega]
  · rw [List.getElem?_take_eq_none (by omega), List.getElem?_eq_none (by rw [cellsE_len, Array.length_toList, hl]; omega)]
theorem below_grown' {B : Nat} {W w w1 : World} {row : Option Nat} (h : Below B W w) (g : w.grownBy w1 row) (hr : ∀ k, row = some k → B ≤ k) (hB : B ≤ w.heap.size) : Below B W w1 :=
  ⟨g.os.trans h.os, g.tape.trans h.tape, g.output.trans h.output, Nat.le_trans h.size g.size, fun k hk => (g.block k (by omega) (fun e => by have := hr k e.symm; omega)).trans (h.block k hk)⟩
def SortedSaid (l : List Ev) (W : World) (x : Ending) (w' : World) : Prop :=
  ∃ v L, x = .returned v ∧ L.Perm l ∧ Asc L ∧ w'.ownsRow W.heap.size 30 3 v L.length (cellsE L) ∧ Below W.heap.size W w'
theorem ownsE_form {w : World} {B n : Nat} {v : Value} {xs : List Value} (h : w.ownsRow B 30 3 v n xs) : ∃ A cap, v = .slice A n cap := by
  rcases h.2 with ⟨rfl, h0⟩ | ⟨g, cap, cur, rfl, _⟩
  · subst h0; exact ⟨_, _, rfl⟩
  · exact ⟨_, _, rfl⟩
set_option maxRecDepth 100000 in
set_option maxHeartbeats 1000000 in
theorem sorted_walk (Bs : Nat) (sv : Value) (l : List Ev) (hlen : l.length ≤ 65536) (w : World) (hBs : Bs < w.heap.size) (hc : w.cell? ⟨Bs, 0, none⟩ = some sv) (hI : EvSl w sv w.heap.size l) :
    Calls Tryd.prog 26 #[.func (.func 36) #[] #[.pointer (some ⟨Bs, 0, none⟩)], .func (.func 28) #[] #[]] w (SortedSaid l w) := by
  have CW := Lib.hid (collect_walk Bs sv l hlen w hBs hc hI)
  clear hc hI
  go_enter Tryd.func26, Tryd.ntmps26
  go_wp2_with (fail)
  refine CW.out.mono ?_
  rintro x w1 ⟨v, rfl, hown, B1⟩
  rcases hown.2 with ⟨rfl, h0⟩ | ⟨g, cap, cur, rfl, hBg, hb, hn, hcm, hcs, ht⟩
  · have hl := List.eq_nil_of_length_eq_zero h0
    subst hl
    have HO := Lib.hid hown
    clear hown CW
    go_wp2_with (fail)
    refine (AnyF.slices_SortFunc_none Tryd.sortEv none 0 (.func (.func 28) #[] #[]) w1).mono ?_
    rintro x w2 ⟨rfl, rfl⟩
    go_wp2
    go_ret
    exact ⟨_, [], rfl, List.Perm.refl _, List.Pairwise.nil, HO.out, B1⟩
  · have hbl : Blk w1 g 30 cur := hb
    have hH : HoldsK encE 3 w1 g 0 l.toArray := by
      intro j hj
      rw [size_flatK] at hj
      refine ⟨?_, hbl.frozen _⟩
      have hf := flat_get l.toArray j hj
      rw [Nat.zero_add, hown.cellAt j (by simpa using hj)]
      simpa using hf
    have SE := Lib.hid (sort_ev g cap l.toArray w1 hH hbl.lt (by simpa using hlen))
    rw [List.size_toArray] at SE
    have HB := Lib.hid hb
    have HN := Lib.hid hcs
    clear hown CW hb ht hH hbl hcs
    go_wp2_with (fail)
    refine SE.out.mono ?_
    rintro x w2 ⟨rfl, d', m, os, hp, hs, rfl⟩
    have hsz : d'.size = l.length := by rw [hp.1]; simp
    have hown2 := Lib.hid (sorted_own (n := m) (os := os) l d' hsz hBg HB.out hn hcm HN.out)
    have hperm : d'.toList.Perm l := by
      have := hp.2.2
      have e1 : d'.extract 0 l.length = d' := by rw [← hsz]; simp
      have e2 : l.toArray.extract 0 l.length = l.toArray := by simp
      rw [e1, e2] at this
      simpa using this
    have hasc : Asc d'.toList := by
      unfold Asc
      rw [List.pairwise_iff_getElem]
      intro i j hi hj hij
      rw [Array.length_toList] at hi hj
      have := hs i j (Nat.zero_le _) hij (by omega)
      rw [ltOf_due, getElem!_pos d' _ hj, getElem!_pos d' _ hi] at this
      simpa using of_decide_eq_false this
    have hlen2 : d'.toList.length = l.length := by rw [Array.length_toList, hsz]
    have B2 := below_grown' B1 (grownBy_sorted_id (n := m) (os := os) (flatK encE 3 d')) (fun k e => by cases e; exact hBg) B1.size
    have HP := Lib.hid hperm
    have HA := Lib.hid hasc
    have HL := Lib.hid hlen2
    clear hp hs hperm hasc hlen2 SE HB
    have B3 : Below w.heap.size w (sortWorldK encE 3 w1 g 0 m d' os) := B2
    clear B2
    generalize sortWorldK encE 3 w1 g 0 m d' os = w3 at *
    go_wp2
    go_ret
    exact ⟨_, d'.toList, rfl, HP.out, HA.out, by rw [HL.out]; exact hown2.out, B3⟩
theorem evs_mem (f : Nat → Ev) (n : Nat) (x : Ev) : x ∈ evs f n ↔ Mem n f x := by
  unfold evs Mem
  rw [List.mem_map]
  constructor
  · rintro ⟨i, h, e⟩; exact ⟨i, List.mem_range.1 h, e⟩
  · rintro ⟨i, h, e⟩; exact ⟨i, List.mem_range.2 h, e⟩
theorem ltE_of {a b : Ev} (h : ¬ ltE b a) (hne : a ≠ b) : ltE a b := by
  obtain ⟨t, k, d⟩ := a
  obtain ⟨t2, k2, d2⟩ := b
  unfold ltE at *
  simp only at *
  have : ¬ (t = t2 ∧ k = k2 ∧ d = d2) := fun ⟨h1, h2, h3⟩ => hne (by rw [h1, h2, h3])
  omega
theorem evs_nodup {f : Nat → Ev} {n : Nat} {m : Int → Int → Option Nat} (h : MapOk n f m) : (evs f n).Nodup := by
  unfold evs
  rw [List.nodup_iff_pairwise_ne, List.pairwise_map]
  refine List.Pairwise.imp_of_mem ?_ List.pairwise_lt_range
  intro a b ha hb hab e
  have := h.inj (i := a) (j := b) (List.mem_range.1 ha) (List.mem_range.1 hb) ⟨by rw [e], by rw [e]⟩
  omega
/-- What List gives. -/
def ListSaid (n : Nat) (f : Nat → Ev) (W : World) (x : Ending) (w' : World) : Prop :=
  ∃ v L, x = .returned v ∧ L.Pairwise ltE ∧ (∀ y, y ∈ L ↔ Mem n f y) ∧ L.length = n ∧ w'.ownsRow W.heap.size 30 3 v n (cellsE L) ∧ Below W.heap.size W w'
set_option maxRecDepth 100000 in
set_option maxHeartbeats 1000000 in
theorem list_ok (B q r n : Nat) (hv : Value) (room : Int) (f : Nat → Ev) (m : Int → Int → Option Nat) (w : World) (h : QS B w q r hv room n f m) (hn : n ≤ 65536) :
    Calls Tryd.prog 19 #[.pointer (some ⟨q, 0, none⟩)] w (ListSaid n f w) := by
  have c1 : w.cell? ⟨q, 1, none⟩ = some hv := by rw [h.qb.cell]; rfl
  have zq := h.qb.lt
  obtain ⟨A, cap, rfl⟩ := h.slice
  have hI : EvSl (w.alloc (.cells #[.slice A n cap] 49)) (.slice A n cap) (w.alloc (.cells #[.slice A n cap] 49)).heap.size (evs f n) := by
    rcases h.hp with ⟨h1, h2⟩ | ⟨g, cp, e, hr, _⟩
    · subst h1; exact .inl ⟨h2, rfl⟩
    · refine .inr ⟨g, cp, f, by rw [evs_len]; exact e, by have := hr.lt; simp; omega, ?_, by rw [evs_len]⟩
      rw [evs_len]; exact hr.of_block (Below.heap_alloc _ _ _ hr.lt)
  have SW := Lib.hid (sorted_walk w.heap.size (.slice A n cap) (evs f n) (by rw [evs_len]; exact hn) (w.alloc (.cells #[.slice A n cap] 49)) (by simp) (by simp) hI)
  have ND := Lib.hid (evs_nodup h.mo)
  have B1 := below_al (Below.refl w.heap.size w) (.cells #[.slice A n cap] 49)
  clear h hI
  go_enter Tryd.func19, Tryd.ntmps19
  go_wp2_with (fail)
  refine (values_walk A n cap w).mono ?_
  rintro x w1 ⟨rfl, rfl⟩
  go_wp2_with (fail)
  refine SW.out.mono ?_
  rintro x w2 ⟨v, L, rfl, hp, ha, hown, B2⟩
  have B3 := below_trans B1 B2
  have hlen : L.length = n := by rw [hp.length_eq, evs_len]
  have hstrict : L.Pairwise ltE := by
    have hnd : L.Nodup := hp.nodup_iff.2 ND.out
    exact (ha.and hnd).imp (fun ⟨h1, h2⟩ => ltE_of h1 h2)
  have hmem : ∀ y, y ∈ L ↔ Mem n f y := fun y => by rw [hp.mem_iff, evs_mem]
  rw [hlen] at hown
  have hown' : w2.ownsRow w.heap.size 30 3 v n (cellsE L) := by
    rcases hown.2 with h0 | ⟨g, cp, cur, e, hb, hr⟩
    · exact ⟨hown.1, .inl h0⟩
    · exact ⟨hown.1, .inr ⟨g, cp, cur, e, by simp at hb; omega, hr⟩⟩
  have HO := Lib.hid hown'
  have HL := Lib.hid hlen
  have HS := Lib.hid hstrict
  have HM := Lib.hid hmem
  clear hp ha hown hown' hlen hstrict hmem SW ND
  go_wp2
  go_ret
  exact ⟨v, L, rfl, HS.out, HM.out, HL.out, HO.out, B3⟩
end Go.Proofs.YtfbbkeekpkbjhaaDoor
