/- BinarySearch and Insert, by what they do to a list of places. -/
import Derived.Test.YtbnnbhblfclomaaDoorL9
import Derived.Test.YtbnnbhblfclomaaDoorShelfLay
namespace Go.Proofs.YtbnnbhblfclomaaDoor
open Go.RowKit
set_option linter.unusedSimpArgs false
set_option linter.unusedVariables false
theorem Blk.puts {g : Nat} {t : TypeId} : ∀ (vs : List Value) (o : Nat) {w : World} {cs : Array Value}, Blk w g t cs →
    ∃ cs', Blk (w.setCells g o vs) g t cs' ∧ cs'.size = cs.size ∧ (∀ j, o ≤ j → j < o + vs.length → j < cs.size → cs'[j]? = vs[j - o]?) ∧ (∀ j, j < o ∨ o + vs.length ≤ j → cs'[j]? = cs[j]?)
  | [], o, w, cs, h => ⟨cs, h, rfl, fun j h1 h2 _ => absurd h2 (by simp; omega), fun _ _ => rfl⟩
  | v :: r, o, w, cs, h => by
    obtain ⟨cs', hb, hs, h1, h2⟩ := Blk.puts r (o + 1) (h.put o v rfl)
    refine ⟨cs', hb, by simpa using hs, fun j a b c => ?_, fun j a => ?_⟩
    · by_cases e : j = o
      · subst e
        rw [h2 j (.inl (by omega)), Array.getElem?_setIfInBounds_self_of_lt c]; simp
      · rw [h1 j (by omega) (by simp at b; omega) (by simpa using c), show j - o = (j - (o + 1)) + 1 by omega]; simp
    · rw [h2 j (by simp at a; omega), Array.getElem?_setIfInBounds_ne (by simp at a; omega)]
theorem setCells_far (g : Nat) : ∀ (vs : List Value) (o : Nat) (w : World) (k : Nat), k ≠ g → (w.setCells g o vs).heap[k]? = w.heap[k]?
  | [], _, _, _, _ => rfl
  | v :: r, o, w, k, h => (setCells_far g r (o + 1) (w.setCell ⟨g, o, none⟩ v) k h).trans (Below.heap_setCell w ⟨g, o, none⟩ v k h)
theorem setCells_os (g : Nat) : ∀ (vs : List Value) (o : Nat) (w : World), (w.setCells g o vs).os = w.os ∧ (w.setCells g o vs).tape = w.tape ∧ (w.setCells g o vs).output = w.output ∧ (w.setCells g o vs).heap.size = w.heap.size
  | [], _, _ => ⟨rfl, rfl, rfl, rfl⟩
  | v :: r, o, w => by
    obtain ⟨h1, h2, h3, h4⟩ := setCells_os g r (o + 1) (w.setCell ⟨g, o, none⟩ v)
    exact ⟨h1, h2, h3, h4.trans (by simp)⟩
theorem setCells_grown (w w1 : World) (g o : Nat) (vs : List Value) (row : Option Nat) (h : w.grownBy w1 row) (hg : some g = row ∨ w.heap.size ≤ g) : w.grownBy (w1.setCells g o vs) row := by
  obtain ⟨h1, h2, h3, h4⟩ := setCells_os g vs o w1
  exact ⟨h1.trans h.os, h2.trans h.tape, h3.trans h.output, by rw [h4]; exact h.size, fun k hk hr => (setCells_far g vs o w1 k (fun c => by
    subst c
    rcases hg with hg | hg
    · exact hr hg
    · omega)).trans (h.block k hk hr)⟩
theorem grown_drew {w w1 : World} {row : Option Nat} (h : w.grownBy w1 row) : w.grownBy w1.drew row := ⟨h.os, h.tape, h.output, h.size, h.block⟩
theorem grown_alloc {w w1 : World} {row : Option Nat} (h : w.grownBy w1 row) (o : Obj) : w.grownBy (w1.alloc o) row := h.trans (World.grownBy_alloc w1 o row)
theorem grown_drewN {w w1 : World} {row : Option Nat} (h : w.grownBy w1 row) (q : Nat) : w.grownBy (w1.drewN q) row := ⟨h.os, h.tape, h.output, h.size, h.block⟩
/-- A slice of places that lies anywhere in a block of its own. -/
def FRow (w : World) (B : Nat) (v : Value) (l : List Nat) : Prop :=
  ∃ A cap, v = .slice A l.length cap ∧ l.length ≤ cap ∧ cap ≤ maxLen ∧
    ((A = none ∧ cap = 0) ∨ ∃ g o cs, A = some ⟨g, o, none⟩ ∧ B ≤ g ∧ Blk w g 3 cs ∧ o + cap ≤ cs.size ∧ ∀ (j x : Nat), l[j]? = some x → cs[o + j]? = some (.int .i64 (x : Int)))
theorem FRow.of_owns {w : World} {B : Nat} {v : Value} {l : List Nat} (h : w.ownsRow B 3 1 v l.length (nats l)) : FRow w B v l := by
  rcases h.2 with ⟨rfl, h0⟩ | ⟨g, cap, cur, rfl, hb, hg, hn, hc, hs, ht⟩
  · obtain rfl := List.eq_nil_of_length_eq_zero h0
    exact ⟨none, 0, rfl, by simp, by decide, .inl ⟨rfl, rfl⟩⟩
  · refine ⟨_, cap, rfl, hn, hc, .inr ⟨g, 0, cur, rfl, hb, hg, by omega, fun j x hj => ?_⟩⟩
    have h1 := nats_get hj
    rw [← ht, List.getElem?_take] at h1
    split at h1
    · simpa using h1
    · cases h1
theorem FRow.lt {w : World} {B : Nat} {v : Value} {l : List Nat} (h : FRow w B v l) : ∀ k, v.ownBlock = some k → B ≤ k ∧ k < w.heap.size := by
  obtain ⟨A, cap, rfl, h1, h2, h3⟩ := h
  intro k hk
  rcases h3 with ⟨rfl, _⟩ | ⟨g, o, cs, rfl, hb, hc, _⟩
  · simp [Value.ownBlock] at hk
  · have : g = k := by simpa [Value.ownBlock] using hk
    subst this
    exact ⟨hb, hc.lt⟩
theorem FRow.far {w w1 : World} {B : Nat} {v : Value} {l : List Nat} (h : FRow w B v l) (hk : ∀ k, v.ownBlock = some k → w1.heap[k]? = w.heap[k]?) : FRow w1 B v l := by
  obtain ⟨A, cap, rfl, h1, h2, h3⟩ := h
  refine ⟨A, cap, rfl, h1, h2, h3.imp id ?_⟩
  rintro ⟨g, o, cs, rfl, hb, hc, hr⟩
  exact ⟨g, o, cs, rfl, hb, (hk g rfl).trans hc, hr⟩
theorem ins_get (l : List Nat) (i y j x : Nat) (hi : i ≤ l.length) (h : (l.take i ++ y :: l.drop i)[j]? = some x) : (j < i ∧ l[j]? = some x) ∨ (j = i ∧ x = y) ∨ (i < j ∧ l[j - 1]? = some x) := by
  have ht : (l.take i).length = i := by rw [List.length_take]; omega
  by_cases c : j < i
  · left
    rw [List.getElem?_append_left (by omega), List.getElem?_take, if_pos c] at h
    exact ⟨c, h⟩
  · rw [List.getElem?_append_right (by omega), ht] at h
    by_cases d : j = i
    · right; left
      subst d
      simp at h
      exact ⟨rfl, h.symm⟩
    · right; right
      rw [show j - i = (j - 1 - i) + 1 by omega, List.getElem?_cons_succ, List.getElem?_drop, show i + (j - 1 - i) = j - 1 by omega] at h
      exact ⟨by omega, h⟩
theorem ins_len (l : List Nat) (i y : Nat) (hi : i ≤ l.length) : (l.take i ++ y :: l.drop i).length = l.length + 1 := by simp; omega
def InsSaid (w : World) (B : Nat) (v : Value) (L : List Nat) (e : Ending) (w' : World) : Prop :=
  ∃ v', e = .returned v' ∧ FRow w' B v' L ∧ w.grownBy w' v.ownBlock ∧ (v'.ownBlock = v.ownBlock ∨ v'.ownBlock = some w.heap.size)
theorem nats_drop (l : List Nat) (m : Nat) : (nats l).drop m = nats (l.drop m) := by unfold nats; rw [List.map_drop]
theorem nats_inv {l : List Nat} {j : Nat} {u : Value} (h : (nats l)[j]? = some u) : ∃ x, l[j]? = some x ∧ u = .int .i64 (x : Int) := nats_of h
/-- What a new block holds behind the growth. -/
theorem frow_new (w1 : World) (B g cap n : Nat) (L : List Nat) (cs : Array Value) (hn : L.length = n) (hB : B ≤ g) (hb : Blk w1 g 3 cs) (hc : cs.size = cap) (hL : n ≤ cap) (hm : cap ≤ maxLen) (h : ∀ (j x : Nat), L[j]? = some x → cs[j]? = some (.int .i64 (x : Int))) :
    FRow w1 B (.slice (some ⟨g, 0, none⟩) n cap) L :=
  ⟨_, cap, by rw [hn], by omega, hm, .inr ⟨g, 0, cs, rfl, hB, hb, by omega, fun j x hj => by rw [Nat.zero_add]; exact h j x hj⟩⟩
theorem insert_walk (w : World) (B : Nat) (v : Value) (l : List Nat) (y i vb : Nat) (hF : FRow w B v l) (hi : i ≤ l.length) (hvb : Blk w vb 3 #[.int .i64 (y : Int)]) (hne : v.ownBlock ≠ some vb) (hB : B ≤ w.heap.size) (hl : l.length ≤ 1048576) :
    Calls Tryd.prog 51 #[v, .int .i64 (i : Int), .slice (some ⟨vb, 0, none⟩) 1 1] w (InsSaid w B v (l.take i ++ y :: l.drop i)) := by
  have hlen := ins_len l i y hi
  have hvs : ∀ j u, [Value.int .i64 (y : Int)][j]? = some u → w.cell? ⟨vb, 0 + j, none⟩ = some u := by
    intro j u hj
    rw [hvb.cell]
    cases j with
    | zero => simpa using hj
    | succ j => simp at hj
  have h1v : ∀ u ∈ [Value.int .i64 (y : Int)], u.oneCell' = true := by simp [Value.oneCell']
  have hn1 := nats_one l
  obtain ⟨A, cap, rfl, hlc, hcm, hA⟩ := hF
  have hgc := grownCap_ge w (l.length + 1) cap 3
  have hgm := grownCap_le_maxLen w (l.length + 1) cap 3 (by simp only [maxLen]; omega)
  have endGrow : ∀ (hroom : cap < l.length + 1) (hcs : ∀ a, A = some a → ∀ j u, (nats l)[j]? = some u → w.cell? (a.add j) = some u) (hnil : A = none → l.length = 0),
      Calls Tryd.prog 51 #[.slice A l.length cap, .int .i64 (l.length : Int), .slice (some ⟨vb, 0, none⟩) 1 1] w (InsSaid w B (.slice A l.length cap) (l.take l.length ++ y :: l.drop l.length)) := by
    intro hroom hcs hnil
    refine (Any2.slices_Insert_int_end_grow Tryd.laysIns A l.length cap vb 0 1 1 (nats l) [.int .i64 (y : Int)] w (by omega) hlc hroom (by omega) (nats_len l) rfl hnil hcs hvs h1v).mono ?_
    rintro e w1 ⟨rfl, rfl⟩
    have hl2 : l.take l.length ++ y :: l.drop l.length = l ++ [y] := by simp
    rw [hl2]
    refine ⟨_, rfl, ?_, grown_alloc (grown_drew (World.grownBy.refl w _)) _, .inr rfl⟩
    have hlen2 : (l ++ [y]).length = l.length + 1 := by simp
    simp only [show Tryd.laysIns_ren.t 3 = 3 from rfl]
    refine frow_new _ B _ _ _ (l ++ [y]) _ hlen2 hB (heap_alloc_new w.drew _) ?_ hgc hgm ?_
    · rw [Array.size_append, size_zeroCells]
      simp [nats_len]
      show l.length + 1 + (grownCap w (l.length + 1) cap 3 - (l.length + 1)) * 1 = _
      omega
    · intro j x hj
      have hj' : j < (l ++ [y]).length := (List.getElem?_eq_some_iff.1 hj).1
      have := nats_get hj
      rw [nats_snoc] at this
      rw [Array.getElem?_append_left (by simp [nats_len]; omega)]
      simpa using this
  rcases hA with ⟨rfl, rfl⟩ | ⟨g, o, cs, rfl, hBg, hb, hsz, hcell⟩
  · obtain rfl : i = l.length := by omega
    exact endGrow (by omega) (fun a h => by cases h) (fun _ => by omega)
  · have hcs : ∀ j u, (nats l)[j]? = some u → w.cell? ⟨g, o + j, none⟩ = some u := by
      intro j u hj
      obtain ⟨x, h1, rfl⟩ := nats_inv hj
      rw [hb.cell]; exact hcell j x h1
    have hgne : g ≠ vb := fun c => hne (by rw [c]; rfl)
    have hown : (Value.slice (some ⟨g, o, none⟩) l.length cap).ownBlock = some g := rfl
    by_cases hin : i = l.length
    · subst hin
      by_cases hroom : l.length + 1 ≤ cap
      · refine (Any2.slices_Insert_int_end_room Tryd.laysIns g o l.length cap vb 0 1 1 [.int .i64 (y : Int)] w (by omega) hroom (by have := hcm; simp only [maxLen] at this; omega) rfl (fun j hj => ?_) (fun j hj => hb.frozen _) hvs h1v).mono ?_
        · rw [hb.cell, Array.getElem?_eq_getElem (by omega)]; rfl
        rintro e w1 ⟨rfl, rfl⟩
        obtain ⟨cs', hb', hs', h1, h2⟩ := hb.puts [.int .i64 (y : Int)] (o + l.length)
        refine ⟨_, rfl, ⟨_, cap, by rw [hlen], by omega, hcm, .inr ⟨g, o, cs', rfl, hBg, hb', by omega, fun j x hj => ?_⟩⟩, ?_, .inl rfl⟩
        · rcases ins_get l _ y j x hi hj with ⟨c, d⟩ | ⟨c, d⟩ | ⟨c, d⟩
          · rw [h2 _ (.inl (by omega))]; exact hcell j x d
          · subst c d
            rw [h1 _ (by omega) (by simp) (by omega)]; simp
          · have := (List.getElem?_eq_some_iff.1 d).1
            omega
        · exact setCells_grown w w g _ _ _ (World.grownBy.refl w _) (.inl rfl)
      · refine endGrow (by omega) (fun a h => ?_) (fun h => by cases h)
        cases h
        intro j u hj
        rw [add_lit0]; exact hcs j u hj
    · by_cases hroom : l.length + 1 ≤ cap
      · refine (Any2.slices_Insert_int_shift Tryd.laysIns g o l.length cap i vb 0 1 1 (nats l) [.int .i64 (y : Int)] w (by omega) (by omega) hroom (by have := hcm; simp only [maxLen] at this; omega) (Ne.symm hgne) (nats_len l) rfl hcs (fun j hj => ?_) (fun j hj => hb.frozen _) hvs hn1 h1v 3 3 1 cs.size ?_ ?_ (by omega) (hvb.frozen _) (hvb.frozen _)).mono ?_
        · rw [hb.cell, Array.getElem?_eq_getElem (by omega)]; rfl
        · unfold World.shape?; rw [hvb]; rfl
        · unfold World.shape?; rw [hb]
        rintro e w1 ⟨rfl, rfl⟩
        obtain ⟨cs1, hb1, hs1, h1, h2⟩ := hb.drew.puts ((nats l).drop i) (o + (i + 1))
        obtain ⟨cs2, hb2, hs2, h3, h4⟩ := hb1.puts [.int .i64 (y : Int)] (o + i)
        have hdl : ((nats l).drop i).length = l.length - i := by rw [List.length_drop, nats_len]
        refine ⟨_, rfl, ⟨_, cap, by rw [hlen], by omega, hcm, .inr ⟨g, o, cs2, rfl, hBg, hb2, by omega, fun j x hj => ?_⟩⟩, ?_, .inl rfl⟩
        · rcases ins_get l _ y j x hi hj with ⟨c, d⟩ | ⟨c, d⟩ | ⟨c, d⟩
          · rw [h4 _ (.inl (by omega)), h2 _ (.inl (by omega))]; exact hcell j x d
          · subst c d
            rw [h3 _ (by omega) (by simp) (by omega)]; simp
          · have hjl := (List.getElem?_eq_some_iff.1 d).1
            rw [h4 _ (.inr (by simp; omega)), h1 _ (by omega) (by omega) (by omega), show o + j - (o + (i + 1)) = j - 1 - i by omega, List.getElem?_drop, show i + (j - 1 - i) = j - 1 by omega]
            exact nats_get d
        · exact setCells_grown w _ g _ _ _ (setCells_grown w _ g _ _ _ (grown_drew (World.grownBy.refl w _)) (.inl rfl)) (.inl rfl)
      · refine (Any2.slices_Insert_int_grow Tryd.laysIns g o l.length cap i vb 0 1 1 (nats l) [.int .i64 (y : Int)] w (by omega) (by omega) hlc (by omega) (by omega) (nats_len l) rfl hcs hvs hn1 h1v).mono ?_
        rintro e w1 ⟨rfl, rfl⟩
        have hb0 := heap_alloc_new w (.cells (((nats l).take i).toArray ++ Builtin.zeroCells (Value.int .i64 0).cells (l.length + 1 - i) ++ Builtin.zeroCells (Value.int .i64 0).cells (grownCap w (l.length + 1) cap 3 - (l.length + 1))) 3)
        have hb0' : Blk (w.alloc (.cells (((nats l).take i).toArray ++ Builtin.zeroCells (Value.int .i64 0).cells (l.length + 1 - i) ++ Builtin.zeroCells (Value.int .i64 0).cells (grownCap w (l.length + 1) cap 3 - (l.length + 1))) 3)).drew w.heap.size 3 _ := hb0
        obtain ⟨cs1, hb1, hs1, h1, h2⟩ := hb0'.puts [.int .i64 (y : Int)] i
        obtain ⟨cs2, hb2, hs2, h3, h4⟩ := hb1.drew.puts ((nats l).drop i) (i + 1)
        have hdl : ((nats l).drop i).length = l.length - i := by rw [List.length_drop, nats_len]
        have hs0 : (((nats l).take i).toArray ++ Builtin.zeroCells (Value.int .i64 0).cells (l.length + 1 - i) ++ Builtin.zeroCells (Value.int .i64 0).cells (grownCap w (l.length + 1) cap 3 - (l.length + 1))).size = grownCap w (l.length + 1) cap 3 := by
          rw [Array.size_append, Array.size_append, size_zeroCells, size_zeroCells]
          simp [nats_len]
          show min i l.length + (l.length + 1 - i) * 1 + (grownCap w (l.length + 1) cap 3 - (l.length + 1)) * 1 = _
          omega
        refine ⟨_, rfl, ?_, ?_, .inr rfl⟩
        · show FRow _ B (.slice (some ⟨w.heap.size, 0, none⟩) (l.length + 1) (grownCap w (l.length + 1) cap 3)) _
          refine frow_new _ B _ _ _ _ cs2 hlen hB hb2 (by rw [hs2, hs1, hs0]) hgc hgm ?_
          intro j x hj
          rcases ins_get l _ y j x hi hj with ⟨c, d⟩ | ⟨c, d⟩ | ⟨c, d⟩
          · rw [h4 _ (.inl (by omega)), h2 _ (.inl (by omega)), Array.append_assoc, Array.getElem?_append_left (by simp [nats_len]; omega)]
            have := nats_get d
            simp [c, this]
          · subst c d
            rw [h4 _ (.inl (by omega)), h1 _ (by omega) (by simp) (by omega)]; simp
          · have hjl := (List.getElem?_eq_some_iff.1 d).1
            rw [h3 _ (by omega) (by omega) (by omega), show j - (i + 1) = j - 1 - i by omega, List.getElem?_drop, show i + (j - 1 - i) = j - 1 by omega]
            exact nats_get d
        · exact setCells_grown w _ _ _ _ _ (grown_drew (setCells_grown w _ _ _ _ _ (grown_drew (grown_alloc (World.grownBy.refl w _) _)) (.inr (Nat.le_refl _)))) (.inr (Nat.le_refl _))
def SeekSaid (w : World) (i : Nat) (e : Ending) (w' : World) : Prop := ∃ b q, e = .returned (.tuple #[.int .i64 (i : Int), .bool b]) ∧ w' = w.drewN q
theorem seek_walk (w : World) (B : Nat) (v : Value) (l : List Nat) (y : Nat) (hF : FRow w B v l) (hs : l.Pairwise (· < ·)) (hl : l.length ≤ 1048576) :
    Calls Tryd.prog 50 #[v, .int .i64 (y : Int)] w (SeekSaid w (insAt y l)) := by
  obtain ⟨A, cap, rfl, hlc, hcm, hA⟩ := hF
  by_cases h0 : l.length = 0
  · have hl0 := List.eq_nil_of_length_eq_zero h0
    subst hl0
    refine (Any.slices_BinarySearch_int_empty Tryd.laysBs A cap y w).mono ?_
    rintro e w1 ⟨rfl, rfl⟩
    exact ⟨false, 0, rfl, rfl⟩
  · rcases hA with ⟨rfl, rfl⟩ | ⟨g, o, cs, rfl, hBg, hb, hsz, hcell⟩
    · omega
    · have ht : (l.map (fun (x : Nat) => (x : Int))).take l.length = l.map (fun (x : Nat) => (x : Int)) := List.take_of_length_le (by simp)
      refine (Any.slices_BinarySearch_int Tryd.laysBs g o l.length cap (l.map (fun (x : Nat) => (x : Int))) y w (by simp) (by omega) (fun j hj => ?_) ?_).mono ?_
      · rw [List.length_map] at hj
        rw [hb.cell, hcell j l[j] (List.getElem?_eq_getElem hj)]
        simp [List.getElem?_eq_getElem hj]
      · rw [ht, List.pairwise_map]
        exact hs.imp (fun h => by omega)
      rintro e w1 ⟨rfl, q, rfl⟩
      have hcount : (((l.map (fun (x : Nat) => (x : Int))).take l.length).countP (fun x => decide (x < (y : Int))) : Nat) = insAt y l := by
        rw [ht]
        unfold insAt
        rw [List.countP_map]
        apply List.countP_congr
        intro x _
        simp
      rw [hcount]
      exact ⟨_, q, rfl, rfl⟩
end Go.Proofs.YtbnnbhblfclomaaDoor
