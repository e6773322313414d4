/- Escalations, and those as the program's. -/
import Derived.Test.YtjffciejoahegaaDoorE6
namespace Go.Proofs.YtjffciejoahegaaDoor
open Go.RowKit
set_option linter.unusedVariables false
/-- An escalation: of what, its first and last number, its contacts (where they lie, and which), its seconds. -/
structure Es where
  o : Int
  f : Int
  l : Int
  a : Option Addr
  c : List Int
  cap : Nat
  r : Int
def Es.v (e : Es) : Value := .slice e.a e.c.length e.cap
def es0 : Es := ⟨0, 0, 0, none, [], 0, 0⟩
def cellsX1 (e : Es) : List Value := [.int .i64 e.o, .int .i64 e.f, .int .i64 e.l, .slice e.a e.c.length e.cap, .int .i64 e.r]
def cellsX (L : List Es) : List Value := L.flatMap cellsX1
theorem cellsX_len : ∀ L : List Es, (cellsX L).length = L.length * 5
  | [] => rfl
  | x :: r => by
    have h : cellsX (x :: r) = cellsX1 x ++ cellsX r := rfl
    rw [h, List.length_append, cellsX_len r, List.length_cons, show (cellsX1 x).length = 5 from rfl]; omega
theorem cellsX_snoc (L : List Es) (e : Es) : cellsX (L ++ [e]) = cellsX L ++ cellsX1 e := by unfold cellsX; simp
theorem cellsX_at : ∀ (L : List Es) (i : Nat), i < L.length → (cellsX L)[i * 5]? = some (.int .i64 (L.getD i es0).o) ∧ (cellsX L)[i * 5 + 1]? = some (.int .i64 (L.getD i es0).f) ∧ (cellsX L)[i * 5 + 2]? = some (.int .i64 (L.getD i es0).l) ∧ (cellsX L)[i * 5 + 3]? = some (.slice (L.getD i es0).a (L.getD i es0).c.length (L.getD i es0).cap) ∧ (cellsX L)[i * 5 + 4]? = some (.int .i64 (L.getD i es0).r)
  | [], i, h => by simp at h
  | x :: r, 0, h => ⟨rfl, rfl, rfl, rfl, rfl⟩
  | x :: r, i + 1, h => by
    have ih := cellsX_at r i (by simpa using h)
    have hc : cellsX (x :: r) = cellsX1 x ++ cellsX r := rfl
    have e5 : (cellsX1 x).length = 5 := rfl
    have g : ∀ k, (cellsX (x :: r))[(i + 1) * 5 + k]? = (cellsX r)[i * 5 + k]? := fun k => by
      rw [hc, List.getElem?_append_right (by rw [e5]; omega), e5, show (i + 1) * 5 + k - 5 = i * 5 + k by omega]
    have e : (x :: r).getD (i + 1) es0 = r.getD i es0 := rfl
    have g0 := g 0
    rw [Nat.add_zero, Nat.add_zero] at g0
    rw [e, g0, g 1, g 2, g 3, g 4]
    exact ih
theorem cellsX_one (L : List Es) : ∀ u ∈ cellsX L, u.oneCell' = true := by
  intro u hu
  unfold cellsX at hu
  obtain ⟨e, _, h2⟩ := List.mem_flatMap.1 hu
  simp [cellsX1] at h2
  rcases h2 with rfl | rfl | rfl | rfl | rfl <;> rfl
/-- Where an escalation's cells lie. -/
def EsAt (w : World) (g p : Nat) (e : Es) : Prop :=
  w.cell? ⟨g, p, none⟩ = some (.int .i64 e.o) ∧ w.cell? ⟨g, p + 1, none⟩ = some (.int .i64 e.f) ∧ w.cell? ⟨g, p + 2, none⟩ = some (.int .i64 e.l) ∧ w.cell? ⟨g, p + 3, none⟩ = some (.slice e.a e.c.length e.cap) ∧ w.cell? ⟨g, p + 4, none⟩ = some (.int .i64 e.r)
/-- A slice of escalations, to be read. -/
def RdX (w : World) (v : Value) (m : Nat) (L : List Es) : Prop :=
  (∃ A cap, v = .slice A 0 cap ∧ (A = none → cap = 0) ∧ L = []) ∨ ∃ g o cap, v = .slice (some ⟨g, o, none⟩) L.length cap ∧ g < m ∧ ∀ i, i < L.length → EsAt w g (o + i * 5) (L.getD i es0)
theorem EsAt.below {w w1 : World} {g p B : Nat} {e : Es} (h : EsAt w g p e) (hb : Below B w w1) (hg : g < B) : EsAt w1 g p e := by
  obtain ⟨a, b, c, d, f⟩ := h
  exact ⟨(hb.cell (p := ⟨g, p, none⟩) hg).trans a, (hb.cell (p := ⟨g, p + 1, none⟩) hg).trans b, (hb.cell (p := ⟨g, p + 2, none⟩) hg).trans c, (hb.cell (p := ⟨g, p + 3, none⟩) hg).trans d, (hb.cell (p := ⟨g, p + 4, none⟩) hg).trans f⟩
theorem RdX.below {w w1 : World} {v : Value} {n B : Nat} {L : List Es} (h : RdX w v n L) (hb : Below B w w1) (hn : n ≤ B) : RdX w1 v n L := by
  rcases h with h | ⟨g, of, cap, e, hg, hc⟩
  · exact .inl h
  · exact .inr ⟨g, of, cap, e, hg, fun i hi => (hc i hi).below hb (by omega)⟩
theorem RdX.wider {w : World} {v : Value} {n m : Nat} {L : List Es} (h : RdX w v n L) (hn : n ≤ m) : RdX w v m L := by
  rcases h with h | ⟨g, of, cap, e, hg, hc⟩
  · exact .inl h
  · exact .inr ⟨g, of, cap, e, by omega, hc⟩
theorem RdX.form {w : World} {v : Value} {n : Nat} {L : List Es} (h : RdX w v n L) : ∃ A cap, v = .slice A L.length cap := by
  rcases h with ⟨A, cap, rfl, _, rfl⟩ | ⟨g, of, cap, e, hg, hc⟩
  · exact ⟨_, _, rfl⟩
  · exact ⟨_, _, e⟩
theorem RdX.of_owns {w : World} {B n m : Nat} {t : TypeId} {v : Value} {L : List Es} (h : w.ownsRow B t 5 v n (cellsX L)) (hl : L.length = n) (hm : w.heap.size ≤ m) : RdX w v m L := by
  subst hl
  rcases h.2 with ⟨e, c⟩ | ⟨g, cap, cur, e, hB, hb, h1, h2, h3, h4⟩
  · exact .inl ⟨none, 0, e, fun _ => rfl, List.length_eq_zero_iff.1 c⟩
  · have hb' : Blk w g t cur := hb
    refine .inr ⟨g, 0, cap, e, by have := hb'.lt; omega, fun i hi => ?_⟩
    have key : ∀ k x, k < L.length * 5 → (cellsX L)[k]? = some x → w.cell? ⟨g, k, none⟩ = some x := fun k x hk hx => by
      rw [← h4, List.getElem?_take_of_lt hk, Array.getElem?_toList] at hx
      rw [hb'.cell, hx]
    obtain ⟨a, b, c, d, f⟩ := cellsX_at L i hi
    rw [Nat.zero_add]
    exact ⟨key _ _ (by omega) a, key _ _ (by omega) b, key _ _ (by omega) c, key _ _ (by omega) d, key _ _ (by omega) f⟩
theorem takeX_succ {L : List Es} {k : Nat} (h : k < L.length) : L.take (k + 1) = L.take k ++ [L.getD k es0] := by
  rw [List.take_add_one, List.getElem?_eq_getElem h, List.getD_eq_getElem?_getD, List.getElem?_eq_getElem h]; rfl
theorem info58 : (Tryd.prog.info? 58).map (fun i => (i.zero, i.size, i.bytes)) = some (some (.agg #[.int .i64 0, .int .i64 0, .int .i64 0, .slice none 0 0, .int .i64 0]), 5, 56) := by kernel_rfl
set_option maxRecDepth 100000 in
set_option maxHeartbeats 1000000 in
theorem give_walk (v : Value) (L : List Es) (hl : L.length ≤ 65536) (w : World) (h : RdX w v w.heap.size L) :
    Calls Tryd.prog 17 #[v] w fun x w' => ∃ v', x = .returned v' ∧ w'.ownsRow w.heap.size 58 5 v' L.length (cellsX L) ∧ Below w.heap.size w w' := by
  obtain ⟨ii, hi0, hz0, hz1, hz2⟩ := info_parts info58
  obtain ⟨A, cap, rfl⟩ := h.form
  have HI := Lib.hid h
  clear h
  go_enter Tryd.func17, Tryd.ntmps17
  go_upto_region 3 with (fail)
  go_loopw [3, 4] (fun u iv wr => ∃ i : Nat, iv = .int .i64 i ∧ i ≤ L.length ∧ wr.ownsRow w.heap.size 58 5 u i (cellsX (L.take i)) ∧ Below w.heap.size w wr) (fun _ iv _ => L.length - (intOf iv).toNat)
  case atStart => exact ⟨0, rfl, Nat.zero_le _, World.ownsRow_nil _ _ _ _, Below.refl _ _⟩
  case round =>
    obtain ⟨i, rfl, hi, own, bel⟩ := hrel
    have i0 : (0 : Int) ≤ i := by omega
    by_cases hlt : i < L.length
    · have hlt' : (i : Int) < (L.length : Int) := by omega
      rcases HI.out with ⟨_, _, _, _, hl0⟩ | ⟨g, o, cp, e, hg, hh⟩
      · rw [hl0] at hlt; simp at hlt
      cases e
      have HS := Lib.hid (takeX_succ hlt)
      obtain ⟨c0, c1, c2, c3, c4⟩ := (hh i hlt).below bel hg
      have z0 := World.block_lt_of_cell? _ _ c0
      generalize L.getD i es0 = E at *
      have hnw := Lib.hid (World.news_of_block (cs := #[.int .i64 E.o, .int .i64 E.f, .int .i64 E.l, .slice E.a E.c.length E.cap, .int .i64 E.r]) (t := 58) (fr := (0, 0)) (heap_alloc_new wr (.cells #[.int .i64 E.o, .int .i64 E.f, .int .i64 E.l, .slice E.a E.c.length E.cap, .int .i64 E.r] 58)))
      have hn1 := Lib.hid (cellsX_one [E])
      have hva := own.alloc (.cells #[.int .i64 E.o, .int .i64 E.f, .int .i64 E.l, .slice E.a E.c.length E.cap, .int .i64 E.r] 58)
      have HOW := Lib.hid own
      have hsz4 : w.heap.size ≤ (wr.alloc (.cells #[.int .i64 E.o, .int .i64 E.f, .int .i64 E.l, .slice E.a E.c.length E.cap, .int .i64 E.r] 58)).heap.size := by have := bel.size; simp; omega
      have BEL := Lib.hid bel
      clear hh own bel
      go_wp2_with (at_builtin; refine wpList_append_own_at _ rfl _ _ 49 rfl w.heap.size 58 ii (.agg #[.int .i64 0, .int .i64 0, .int .i64 0, .slice none 0 0, .int .i64 0]) 5 56 Tryd.underlying49 hi0 hz0 hz1 hz2 rfl (by decide) _ i (cellsX (L.take i)) rfl hva ⟨wr.heap.size, 0, none⟩ 1 1 (cellsX1 E) rfl rfl hnw.out (by have := hn1.out; simpa [cellsX] using this) (by simp only [maxLen]; omega) (by omega) hsz4 ?_; intro v3 w4 own4 gr4 nil4 at4)
      rw [← cellsX_snoc, ← HS.out] at own4
      have B4 := below_grown' (below_al BEL.out _) gr4 (fun k e => (HOW.out.lt k e).1) hsz4
      have O4 := Lib.hid own4
      clear own4 gr4 nil4 at4 hva c0 c1 c2 c3 c4 z0 hsz4
      go_wp2
      go_roundw
      case rel => exact ⟨i + 1, by go_num, by omega, O4.out, B4⟩
      case measure => simp [intOf]; omega
    · obtain rfl : i = L.length := by omega
      rw [List.take_length] at own
      have HOW := Lib.hid own
      clear own
      go_wp2_with (fail)
      go_ret
      exact ⟨_, rfl, HOW.out, bel⟩
end Go.Proofs.YtjffciejoahegaaDoor
