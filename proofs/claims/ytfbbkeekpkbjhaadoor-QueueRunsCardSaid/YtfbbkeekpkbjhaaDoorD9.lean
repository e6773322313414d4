/- The queue and the document's list. -/
import Derived.Test.YtfbbkeekpkbjhaaDoorD8
import Derived.Test.YtfbbkeekpkbjhaaDoorD6
namespace Go.Proofs.YtfbbkeekpkbjhaaDoor
open Go.RowKit
theorem getD_mem {L : List Ev} {i : Nat} (h : i < L.length) : L.getD i ⟨0, 0, 0⟩ ∈ L := by
  rw [List.getD_eq_getElem?_getD, List.getElem?_eq_getElem h]; exact List.getElem_mem _
theorem getD_get {L : List Ev} {i : Nat} (h : i < L.length) : L.getD i ⟨0, 0, 0⟩ = L[i] := by
  rw [List.getD_eq_getElem?_getD, List.getElem?_eq_getElem h]; rfl
/-- Sorted, and no two of one kind and number. -/
structure LOk (L : List Ev) : Prop where
  asc : L.Pairwise ltE
  uniq : ∀ x ∈ L, ∀ y ∈ L, x.k = y.k → x.d = y.d → x = y
theorem ltE_tri {a b : Ev} (h1 : ¬ ltE a b) (h2 : a ≠ b) : ltE b a := ltE_of h1 h2.symm
theorem ins_law {L M : List Ev} {e : Ev} (h : LOk L) (hno : ∀ x ∈ L, ¬ KD x e.k e.d) (hi : InsAt L e M) : LOk M ∧ (∀ y, y ∈ M ↔ y = e ∨ y ∈ L) ∧ M.length = L.length + 1 := by
  obtain ⟨k, hk, hlt, hge, rfl⟩ := hi
  have hsplit := List.take_append_drop k L
  have hmem : ∀ y, y ∈ L.take k ++ e :: L.drop k ↔ y = e ∨ y ∈ L := fun y => by
    rw [List.mem_append, List.mem_cons]
    conv => rhs; rhs; rw [← hsplit, List.mem_append]
    exact or_left_comm
  have hlow : ∀ x ∈ L.take k, ltE x e := fun x hx => by
    obtain ⟨j, hj, rfl⟩ := List.getElem_of_mem hx
    rw [List.length_take] at hj
    have := hlt j (by omega)
    rw [getD_get (by omega)] at this
    simpa using this
  have hp := h.asc
  rw [← hsplit, List.pairwise_append] at hp
  obtain ⟨p1, p2, p3⟩ := hp
  have hhigh : ∀ x ∈ L.drop k, ltE e x := fun x hx => by
    by_cases hkl : k < L.length
    · have h0 := hge hkl
      rw [getD_get hkl] at h0
      have hne : L[k] ≠ e := fun c => hno _ (List.getElem_mem hkl) (by rw [c]; exact ⟨rfl, rfl⟩)
      have h1 := ltE_tri h0 hne
      rw [List.drop_eq_getElem_cons hkl] at hx p2
      rcases List.mem_cons.1 hx with c | c
      · rw [c]; exact h1
      · exact ltE_trans h1 ((List.pairwise_cons.1 p2).1 x c)
    · rw [List.drop_eq_nil_of_le (by omega)] at hx; cases hx
  refine ⟨⟨?_, ?_⟩, hmem, by rw [List.length_append, List.length_cons, List.length_take, List.length_drop]; omega⟩
  · rw [List.pairwise_append, List.pairwise_cons]
    refine ⟨p1, ⟨hhigh, p2⟩, fun x hx y hy => ?_⟩
    rcases List.mem_cons.1 hy with c | c
    · rw [c]; exact hlow x hx
    · exact p3 x hx y c
  · intro x hx y hy hk hd
    rcases (hmem x).1 hx with rfl | hx'
    · rcases (hmem y).1 hy with rfl | hy'
      · rfl
      · exact absurd ⟨hk.symm, hd.symm⟩ (hno y hy')
    · rcases (hmem y).1 hy with rfl | hy'
      · exact absurd ⟨hk, hd⟩ (hno x hx')
      · exact h.uniq x hx' y hy' hk hd
theorem erase_law {L : List Ev} {i : Nat} {a b : Int} (h : LOk L) (hi : i < L.length) (hk : KD (L.getD i ⟨0, 0, 0⟩) a b) : LOk (L.eraseIdx i) ∧ (∀ y, y ∈ L.eraseIdx i ↔ y ∈ L ∧ ¬ KD y a b) ∧ (L.eraseIdx i).length + 1 = L.length := by
  have hsub : (L.eraseIdx i).Sublist L := List.eraseIdx_sublist L i
  rw [getD_get hi] at hk
  have hsplit : L = L.take i ++ L[i] :: L.drop (i + 1) := by rw [← List.drop_eq_getElem_cons hi, List.take_append_drop]
  have hp := h.asc
  rw [hsplit, List.pairwise_append, List.pairwise_cons] at hp
  obtain ⟨p1, ⟨p2, p4⟩, p3⟩ := hp
  refine ⟨⟨h.asc.sublist hsub, fun x hx y hy => h.uniq x (hsub.subset hx) y (hsub.subset hy)⟩, fun y => ⟨fun hy => ⟨hsub.subset hy, fun hky => ?_⟩, fun ⟨hy, hn⟩ => ?_⟩, by rw [List.length_eraseIdx, if_pos hi]; omega⟩
  · have e := h.uniq y (hsub.subset hy) L[i] (List.getElem_mem hi) (hky.1.trans hk.1.symm) (hky.2.trans hk.2.symm)
    rw [erase_eq, List.mem_append] at hy
    rcases hy with c | c
    · have := p3 y c L[i] List.mem_cons_self
      rw [e] at this; exact ltE_irrefl _ this
    · have := p2 y c
      rw [e] at this; exact ltE_irrefl _ this
  · rw [hsplit, List.mem_append, List.mem_cons] at hy
    rw [erase_eq, List.mem_append]
    rcases hy with c | c | c
    · exact .inl c
    · exact absurd (by rw [c]; exact hk) hn
    · exact .inr c
/-- A queue and the document's list say the same. -/
structure RI (B : Nat) (w0 wr : World) (Q R : Nat) (room : Int) (hv v : Value) (L : List Ev) (f : Nat → Ev) (m : Int → Int → Option Nat) : Prop where
  qs : QS B wr Q R hv room L.length f m
  ok : LOk L
  mem : ∀ y, y ∈ L ↔ Mem L.length f y
  own : wr.ownsRow B 43 3 v L.length (cellsE L)
  off : ∀ k, v.ownBlock = some k → k ≠ Q ∧ k ≠ R ∧ hv.ownBlock ≠ some k
  bel : Below B w0 wr
  le : (L.length : Int) ≤ room
theorem owns_of_block {w w' : World} {B n : Nat} {t : TypeId} {v : Value} {xs : List Value} (h : w.ownsRow B t 3 v n xs) (k : ∀ g, v.ownBlock = some g → w'.heap[g]? = w.heap[g]?) : w'.ownsRow B t 3 v n xs := by
  refine ⟨h.1, h.2.imp id ?_⟩
  rintro ⟨g, cap, cur, e, hB, hb, r⟩
  exact ⟨g, cap, cur, e, hB, (k g (by rw [e]; rfl)).trans hb, r⟩
theorem owns_n {w : World} {B n : Nat} {t : TypeId} {v : Value} {M : List Ev} (h : w.ownsRow B t 3 v n (cellsE M)) : n = M.length := by
  have := h.1
  rw [cellsE_len] at this; omega
theorem RI.below {B : Nat} {w0 wr w1 : World} {Q R : Nat} {room : Int} {hv v : Value} {L : List Ev} {f : Nat → Ev} {m : Int → Int → Option Nat} (h : RI B w0 wr Q R room hv v L f m) (hB : B ≤ wr.heap.size) (k : Below wr.heap.size wr w1) : RI B w0 w1 Q R room hv v L f m :=
  ⟨h.qs.below k, h.ok, h.mem, owns_of_block h.own (fun g hg => k.block g ((h.own.lt g hg).2)), h.off, h.bel.trans (k.mono hB), h.le⟩
theorem RI.size {B : Nat} {w0 wr : World} {Q R : Nat} {room : Int} {hv v : Value} {L : List Ev} {f : Nat → Ev} {m : Int → Int → Option Nat} (h : RI B w0 wr Q R room hv v L f m) (hB : B ≤ w0.heap.size) : B ≤ wr.heap.size := Nat.le_trans hB h.bel.size
/-- The document's list first, the queue then. -/
theorem RI.set {B : Nat} {w0 wr w1 w2 : World} {Q R : Nat} {room : Int} {hv hv' v v' : Value} {L M : List Ev} {f f' : Nat → Ev} {m m' : Int → Int → Option Nat} (h : RI B w0 wr Q R room hv v L f m) (hB : B ≤ wr.heap.size)
    (k1 : Below wr.heap.size wr w1) (own : w1.ownsRow wr.heap.size 43 3 v' M.length (cellsE M)) (k2 : QF B w1 w2 Q R hv) (qs : QS B w2 Q R hv' room M.length f' m') (hn : ∀ k, hv'.ownBlock = some k → hv.ownBlock = some k ∨ w1.heap.size ≤ k)
    (ok : LOk M) (mem : ∀ y, y ∈ M ↔ Mem M.length f' y) (le : (M.length : Int) ≤ room) : RI B w0 w2 Q R room hv' v' M f' m' := by
  have hlt : ∀ g, v'.ownBlock = some g → wr.heap.size ≤ g ∧ g < w1.heap.size := fun g hg => own.lt g hg
  have hQ := h.qs.qb.lt
  have hR := h.qs.mr.lt
  refine ⟨qs, ok, mem, owns_mono (owns_of_block own (fun g hg => k2.far g (hlt g hg).2 ?_ ?_ ?_)) hB, fun g hg => ⟨?_, ?_, ?_⟩, (h.bel.trans (k1.mono hB)).trans k2.bel, le⟩
  · have := (hlt g hg).1; omega
  · have := (hlt g hg).1; omega
  · exact fun c => by have := (h.qs.own_lt c).1; have := (hlt g hg).1; omega
  · have := (hlt g hg).1; omega
  · have := (hlt g hg).1; omega
  · intro c
    rcases hn g c with d | d
    · have := (h.qs.own_lt d).1; have := (hlt g hg).1; omega
    · have := (hlt g hg).2; omega
/-- The queue first: the document's list as it was stands aside. -/
theorem RI.aside {B : Nat} {w0 wr w2 : World} {Q R : Nat} {room : Int} {hv v : Value} {L : List Ev} {f : Nat → Ev} {m : Int → Int → Option Nat} (h : RI B w0 wr Q R room hv v L f m) (k2 : QF B wr w2 Q R hv) : w2.ownsRow B 43 3 v L.length (cellsE L) :=
  owns_of_block h.own (fun g hg => k2.far g (h.own.lt g hg).2 (h.off g hg).1 (h.off g hg).2.1 (h.off g hg).2.2)
theorem RI.take {B : Nat} {w0 w2 w3 : World} {Q R : Nat} {room : Int} {hv' v' : Value} {M : List Ev} {f' : Nat → Ev} {m' : Int → Int → Option Nat} (bel : Below B w0 w2) (hB : B ≤ w2.heap.size)
    (qs : QS B w2 Q R hv' room M.length f' m') (k3 : Below w2.heap.size w2 w3) (own : w3.ownsRow w2.heap.size 43 3 v' M.length (cellsE M)) (ok : LOk M) (mem : ∀ y, y ∈ M ↔ Mem M.length f' y) (le : (M.length : Int) ≤ room) : RI B w0 w3 Q R room hv' v' M f' m' := by
  have hQ := qs.qb.lt
  have hR := qs.mr.lt
  refine ⟨qs.below k3, ok, mem, owns_mono own hB, fun g hg => ⟨?_, ?_, fun c => ?_⟩, bel.trans (k3.mono hB), le⟩
  · have := (own.lt g hg).1; omega
  · have := (own.lt g hg).1; omega
  · have := (own.lt g hg).1; have := (qs.own_lt c).1; omega
theorem RI.rd {B : Nat} {w0 wr : World} {Q R : Nat} {room : Int} {hv v : Value} {L : List Ev} {f : Nat → Ev} {m : Int → Int → Option Nat} (h : RI B w0 wr Q R room hv v L f m) : RdE wr v L := RdE.of_owns h.own rfl
theorem RI.key {B : Nat} {w0 wr : World} {Q R : Nat} {room : Int} {hv v : Value} {L : List Ev} {f : Nat → Ev} {m : Int → Int → Option Nat} (h : RI B w0 wr Q R room hv v L f m) (a b : Int) :
    (m a b = none ∧ ∀ x ∈ L, ¬ KD x a b) ∨ ∃ i j, m a b = some i ∧ j < L.length ∧ L.getD j ⟨0, 0, 0⟩ = f i ∧ KD (f i) a b ∧ f i ∈ L := by
  cases hm : m a b with
  | none =>
    refine .inl ⟨rfl, fun x hx hk => ?_⟩
    obtain ⟨i, hi, e, hmi⟩ := h.qs.some_of ((h.mem x).1 hx)
    rw [hk.1, hk.2, hm] at hmi; cases hmi
  | some i =>
    obtain ⟨hi, e1, e2⟩ := h.qs.mo.of_ _ _ _ hm
    have hin : f i ∈ L := (h.mem _).2 ⟨i, hi, rfl⟩
    obtain ⟨j, hj, e⟩ := List.getElem_of_mem hin
    exact .inr ⟨i, j, rfl, hj, by rw [getD_get hj]; exact e, ⟨e1, e2⟩, hin⟩
theorem RI.first {B : Nat} {w0 wr : World} {Q R : Nat} {room : Int} {hv v : Value} {L : List Ev} {f : Nat → Ev} {m : Int → Int → Option Nat} (h : RI B w0 wr Q R room hv v L f m) (h0 : 0 < L.length) : L.getD 0 ⟨0, 0, 0⟩ = f 0 := by
  obtain ⟨n, hn⟩ : ∃ n, L.length = n + 1 := ⟨L.length - 1, by omega⟩
  have hm := h.mem
  have ho := h.qs.od
  rw [hn] at hm ho
  have := least_drop h.ok.asc (k := 0) ho (fun x => by rw [List.drop_zero]; exact (hm x).symm) h0
  rw [List.getD_eq_getElem?_getD, this]; rfl
end Go.Proofs.YtfbbkeekpkbjhaaDoor
