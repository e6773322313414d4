/- Deps, and what the program makes of them. -/
import Derived.Test.YtbnnbhblfclomaaDoorR4
import Derived.Test.YtbnnbhblfclomaaDoorNum
namespace Go.Proofs.YtbnnbhblfclomaaDoor
open Go.RowKit
set_option linter.unusedSimpArgs false
set_option linter.unusedVariables false
/-- A dep: on which, of which, by which statuses. -/
structure Dp where
  on : Int
  of_ : Int
  m : Int
def dp0 : Dp := ⟨0, 0, 0⟩
def DpAt (w : World) (g o : Nat) (d : Dp) : Prop := w.cell? ⟨g, o, none⟩ = some (.int .i64 d.on) ∧ w.cell? ⟨g, o + 1, none⟩ = some (.int .i64 d.of_) ∧ w.cell? ⟨g, o + 2, none⟩ = some (.int .i64 d.m)
def RdD (w : World) (v : Value) (m : Nat) (L : List Dp) : Prop :=
  (∃ A cap, v = .slice A 0 cap ∧ L = []) ∨ ∃ g o cap, v = .slice (some ⟨g, o, none⟩) L.length cap ∧ g < m ∧ ∀ i, i < L.length → DpAt w g (o + i * 3) (L.getD i dp0)
theorem DpAt.below {w w1 : World} {g o B : Nat} {d : Dp} (h : DpAt w g o d) (hb : Below B w w1) (hg : g < B) : DpAt w1 g o d :=
  ⟨(hb.cell (p := ⟨g, o, none⟩) hg).trans h.1, (hb.cell (p := ⟨g, o + 1, none⟩) hg).trans h.2.1, (hb.cell (p := ⟨g, o + 2, none⟩) hg).trans h.2.2⟩
theorem RdD.below {w w1 : World} {v : Value} {n B : Nat} {L : List Dp} (h : RdD w v n L) (hb : Below B w w1) (hn : n ≤ B) : RdD w1 v n L := by
  rcases h with h | ⟨g, o, cap, e, hg, hc⟩
  · exact .inl h
  · exact .inr ⟨g, o, cap, e, hg, fun i hi => (hc i hi).below hb (by omega)⟩
theorem RdD.wider {w : World} {v : Value} {n m : Nat} {L : List Dp} (h : RdD w v n L) (hn : n ≤ m) : RdD w v m L := by
  rcases h with h | ⟨g, o, cap, e, hg, hc⟩
  · exact .inl h
  · exact .inr ⟨g, o, cap, e, by omega, hc⟩
theorem RdD.form {w : World} {v : Value} {n : Nat} {L : List Dp} (h : RdD w v n L) : ∃ A cap, v = .slice A L.length cap := by
  rcases h with ⟨A, cap, rfl, rfl⟩ | ⟨g, o, cap, e, hg, hc⟩
  · exact ⟨_, _, rfl⟩
  · exact ⟨_, _, e⟩
theorem RdD.cell {w : World} {A : Option Addr} {c n : Nat} {L : List Dp} (h : RdD w (.slice A L.length c) n L) {i : Nat} (hi : i < L.length) : ∃ g o, A = some ⟨g, o, none⟩ ∧ g < n ∧ DpAt w g (o + i * 3) (L.getD i dp0) := by
  rcases h with ⟨_, _, _, rfl⟩ | ⟨g, o, cap, e, hg, hc⟩
  · simp at hi
  · cases e; exact ⟨g, o, rfl, hg, hc i hi⟩
def cellsD1 (d : Dp) : List Value := [.int .i64 d.on, .int .i64 d.of_, .int .i64 d.m]
def cellsD (L : List Dp) : List Value := L.flatMap cellsD1
theorem cellsD_snoc (L : List Dp) (d : Dp) : cellsD (L ++ [d]) = cellsD L ++ cellsD1 d := by simp [cellsD]
theorem cellsD_get : ∀ (L : List Dp) (j : Nat), j < L.length → (cellsD L)[j * 3]? = some (.int .i64 (L.getD j dp0).on) ∧ (cellsD L)[j * 3 + 1]? = some (.int .i64 (L.getD j dp0).of_) ∧ (cellsD L)[j * 3 + 2]? = some (.int .i64 (L.getD j dp0).m)
  | [], j, h => by simp at h
  | d :: L, 0, h => by simp [cellsD, cellsD1]
  | d :: L, j + 1, h => by
    have := cellsD_get L j (by simp at h; omega)
    have e : ∀ k, (cellsD (d :: L))[(j + 1) * 3 + k]? = (cellsD L)[j * 3 + k]? := fun k => by
      show (cellsD1 d ++ cellsD L)[(j + 1) * 3 + k]? = _
      rw [List.getElem?_append_right (by simp [cellsD1]; omega)]
      congr 1; simp [cellsD1]; omega
    have e0 := e 0
    rw [Nat.add_zero, Nat.add_zero] at e0
    rw [e0, e 1, e 2]
    simpa using this
theorem RdD.of_owns {w : World} {B n m : Nat} {t : TypeId} {v : Value} {L : List Dp} (h : w.ownsRow B t 3 v n (cellsD L)) (hl : L.length = n) (hm : w.heap.size ≤ m) : RdD w v m L := by
  subst hl
  rcases h.2 with ⟨e, c⟩ | ⟨g, cap, cur, e, hB, hb, h1, h2, h3, h4⟩
  · have c' : L = [] := List.length_eq_zero_iff.1 c
    subst c'
    exact .inl ⟨_, _, e, rfl⟩
  · have hb' : Blk w g t cur := hb
    refine .inr ⟨g, 0, cap, e, by have := hb'.lt; omega, fun i hi => ?_⟩
    obtain ⟨e0, e1, e2⟩ := cellsD_get L i hi
    have q : ∀ k x, k < L.length * 3 → (cellsD L)[k]? = some x → w.cell? ⟨g, k, none⟩ = some x := fun k x hk hx => by
      rw [← h4, List.getElem?_take_of_lt hk, Array.getElem?_toList] at hx
      rw [hb'.cell, hx]
    refine ⟨?_, ?_, ?_⟩
    · rw [Nat.zero_add]; exact q _ _ (by omega) e0
    · rw [Nat.zero_add]; exact q _ _ (by omega) e1
    · rw [Nat.zero_add]; exact q _ _ (by omega) e2
/-- What check, Blocked and Masters say. -/
def awayD (n : Int) (d : Dp) : Bool := decide (d.on < 0) || (decide (n ≤ d.on) || (decide (d.of_ < 0) || decide (n ≤ d.of_)))
def checkE (D : List Dp) (n of_ : Int) : Int := if 4096 < D.length then 2 else if (decide (of_ < 0) || (decide (n ≤ of_) || D.any (awayD n))) = true then 5 else 0
def oddD (d : Dp) : Bool := decide (d.m < 0) || decide (15 < d.m)
def noneS (s : Int) : Bool := decide (s < 0) || decide (3 < s)
def bitD (m s : Int) : Bool := decide (m.toNat / 2 ^ s.toNat % 2 = 1)
def failsD (S : List Int) (of_ : Int) (d : Dp) : Bool := decide (d.of_ = of_) && bitD d.m (S.getD d.on.toNat 0)
def blockedE (D : List Dp) (S : List Int) (of_ : Int) : Int := if checkE D S.length of_ ≠ 0 then checkE D S.length of_ else if (D.any oddD || S.any noneS) = true then 1 else 0
def blockedB (D : List Dp) (S : List Int) (of_ : Int) : Bool := if blockedE D S of_ = 0 then D.any (failsD S of_) else false
theorem info64 : (Tryd.prog.info? 64).map (fun i => (i.zero, i.size, i.bytes)) = some (some (.agg #[.int .i64 0, .int .i64 0, .int .i64 0]), 3, 24) := by kernel_rfl
def GiveSaid (L : List Dp) (w : World) (y : Ending) (w' : World) : Prop := (∃ v, y = .returned v ∧ w'.ownsRow w.heap.size 64 3 v L.length (cellsD L)) ∧ Below w.heap.size w w'
theorem takeD_succ {L : List Dp} {k : Nat} (h : k < L.length) : L.take (k + 1) = L.take k ++ [L.getD k dp0] := by
  rw [List.take_add_one, List.getElem?_eq_getElem h, List.getD_eq_getElem?_getD, List.getElem?_eq_getElem h]; rfl
set_option maxRecDepth 100000 in
set_option maxHeartbeats 4000000 in
theorem give_walk (u : Value) (L : List Dp) (w : World) (h : RdD w u w.heap.size L) (hl : L.length ≤ 60) : Calls Tryd.prog 13 #[u] w (GiveSaid L w) := by
  obtain ⟨A, cap, rfl⟩ := h.form
  have HI := Lib.hid h
  obtain ⟨ii, hi0, hz0, hz1, hz2⟩ := info_parts info64
  clear h
  go_enter Tryd.func13, Tryd.ntmps13
  go_upto_region 3 with (fail)
  go_loopw [3, 4] (fun ov iv wr => ∃ i : Nat, iv = .int .i64 i ∧ i ≤ L.length ∧ wr.ownsRow w.heap.size 64 3 ov i (cellsD (L.take i)) ∧ Below w.heap.size w wr) (fun _ iv _ => L.length - (intOf iv).toNat)
  case atStart => exact ⟨0, rfl, Nat.zero_le _, World.ownsRow_nil _ _ _ _, Below.refl _ _⟩
  case round =>
    obtain ⟨i, rfl, hi, own, bel⟩ := hrel
    have i0 : (0 : Int) ≤ i := by omega
    have HOW := Lib.hid own
    have BEL := Lib.hid bel
    clear own bel
    by_cases hlt : i < L.length
    · have hlt' : (i : Int) < (L.length : Int) := by omega
      obtain ⟨g, o, rfl, hg, c0, c1, c2⟩ := (HI.out.below BEL.out (Nat.le_refl _)).cell hlt
      have z0 := World.block_lt_of_cell? _ _ c0
      have HTK := Lib.hid (takeD_succ hlt)
      generalize L.getD i dp0 = d at *
      obtain ⟨a, b, c⟩ := d
      dsimp only at c0 c1 c2
      have hva := HOW.out.alloc (.cells #[.int .i64 a, .int .i64 b, .int .i64 c] 64)
      have hnw := Lib.hid (World.news_of_block (cs := #[.int .i64 a, .int .i64 b, .int .i64 c]) (t := 64) (fr := (0, 0)) (heap_alloc_new wr (.cells #[.int .i64 a, .int .i64 b, .int .i64 c] 64)))
      have hsz4 : w.heap.size ≤ (wr.alloc (.cells #[.int .i64 a, .int .i64 b, .int .i64 c] 64)).heap.size := by have := BEL.out.size; simp; omega
      go_wp2_with (at_builtin; refine wpList_append_own_at _ rfl _ _ 39 rfl w.heap.size 64 ii (.agg #[.int .i64 0, .int .i64 0, .int .i64 0]) 3 24 Tryd.underlying39 hi0 hz0 hz1 hz2 rfl (by decide) _ i (cellsD (L.take i)) rfl hva ⟨wr.heap.size, 0, none⟩ 1 1 [.int .i64 a, .int .i64 b, .int .i64 c] rfl rfl hnw.out (by simp [Value.oneCell']) (by simp only [maxLen]; omega) (by omega) hsz4 ?_; intro v5 w5 own5 gr5 nil5 at5)
      have B5 := Lib.hid (below_grown' (BEL.out.alloc BEL.out.size _) gr5 (fun k e => (HOW.out.lt k e).1) hsz4)
      have e5 : cellsD (L.take i) ++ [.int .i64 a, .int .i64 b, .int .i64 c] = cellsD (L.take (i + 1)) := by rw [HTK.out, cellsD_snoc]; rfl
      rw [e5] at own5
      have HO5 := Lib.hid own5
      clear own5 gr5 nil5 at5 hva hsz4 e5
      go_wp2
      go_roundw
      case rel => exact ⟨i + 1, by go_num, by omega, HO5.out, B5.out⟩
      case measure => simp [intOf]; omega
    · obtain rfl : i = L.length := by omega
      have hown := HOW.out
      rw [List.take_length] at hown
      have HO := Lib.hid hown
      clear hown
      go_wp2_with (fail)
      go_ret
      exact ⟨⟨_, rfl, HO.out⟩, BEL.out⟩
end Go.Proofs.YtbnnbhblfclomaaDoor
