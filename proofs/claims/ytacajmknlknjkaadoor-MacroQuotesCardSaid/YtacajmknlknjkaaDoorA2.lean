/- Macros, and those as the program's. -/
import Derived.Test.YtacajmknlknjkaaDoorBase
import Derived.Test.YtacajmknlknjkaaDoorA1
import Derived.Test.YtacajmknlknjkaaDoorP1
import Derived.Maps.AppendAt
import Derived.Deep.AppendLies
namespace Go.Proofs.YtacajmknlknjkaaDoor
open Go.RowKit
set_option linter.unusedVariables false
open Go.Shelf
theorem bel_cell {w w' : World} {p : Addr} {v : Value} (h : Below w.heap.size w w') (c : w.cell? p = some v) : w'.cell? p = some v := (h.cell (World.block_lt_of_cell? w p c)).trans c
theorem below_grown' {B : Nat} {W w w1 : World} {row : Option Nat} (h : Below B W w) (g : w.grownBy w1 row) (hr : ∀ k, row = some k → B ≤ k) (hB : B ≤ w.heap.size) : Below B W w1 :=
  ⟨g.os.trans h.os, g.tape.trans h.tape, g.output.trans h.output, Nat.le_trans h.size g.size, fun k hk => (g.block k (by omega) (fun e => by have := hr k e.symm; omega)).trans (h.block k hk)⟩
def mc0 : Mc := ⟨ByteArray.empty, ByteArray.empty⟩
def cellsM1 (e : Mc) : List Value := [.string e.n, .string e.v]
def cellsM (L : List Mc) : List Value := L.flatMap cellsM1
theorem cellsM_len : ∀ L : List Mc, (cellsM L).length = L.length * 2
  | [] => rfl
  | x :: r => by
    have h : cellsM (x :: r) = cellsM1 x ++ cellsM r := rfl
    rw [h, List.length_append, cellsM_len r, List.length_cons, show (cellsM1 x).length = 2 from rfl]; omega
theorem cellsM_snoc (L : List Mc) (e : Mc) : cellsM (L ++ [e]) = cellsM L ++ cellsM1 e := by unfold cellsM; simp
theorem cellsM_at : ∀ (L : List Mc) (i : Nat), i < L.length → (cellsM L)[i * 2]? = some (.string (L.getD i mc0).n) ∧ (cellsM L)[i * 2 + 1]? = some (.string (L.getD i mc0).v)
  | [], i, h => by simp at h
  | x :: r, 0, h => ⟨rfl, rfl⟩
  | x :: r, i + 1, h => by
    have ih := cellsM_at r i (by simpa using h)
    have hc : cellsM (x :: r) = cellsM1 x ++ cellsM r := rfl
    have e5 : (cellsM1 x).length = 2 := rfl
    have g : ∀ k, (cellsM (x :: r))[(i + 1) * 2 + k]? = (cellsM r)[i * 2 + k]? := fun k => by
      rw [hc, List.getElem?_append_right (by rw [e5]; omega), e5, show (i + 1) * 2 + k - 2 = i * 2 + k by omega]
    have e : (x :: r).getD (i + 1) mc0 = r.getD i mc0 := rfl
    have g0 := g 0
    rw [Nat.add_zero, Nat.add_zero] at g0
    rw [e, g0, g 1]
    exact ih
theorem cellsM_one (L : List Mc) : ∀ u ∈ cellsM L, u.oneCell' = true := by
  intro u hu
  unfold cellsM at hu
  obtain ⟨e, _, h2⟩ := List.mem_flatMap.1 hu
  simp [cellsM1] at h2
  rcases h2 with rfl | rfl <;> rfl
def McAt (w : World) (g p : Nat) (e : Mc) : Prop := w.cell? ⟨g, p, none⟩ = some (.string e.n) ∧ w.cell? ⟨g, p + 1, none⟩ = some (.string e.v)
/-- A slice of macros, to be read. -/
def RdM (w : World) (v : Value) (m : Nat) (L : List Mc) : Prop :=
  (∃ A cap, v = .slice A 0 cap ∧ (A = none → cap = 0) ∧ L = []) ∨ ∃ g o cap, v = .slice (some ⟨g, o, none⟩) L.length cap ∧ g < m ∧ ∀ i, i < L.length → McAt w g (o + i * 2) (L.getD i mc0)
theorem McAt.below {w w1 : World} {g p B : Nat} {e : Mc} (h : McAt w g p e) (hb : Below B w w1) (hg : g < B) : McAt w1 g p e :=
  ⟨(hb.cell (p := ⟨g, p, none⟩) hg).trans h.1, (hb.cell (p := ⟨g, p + 1, none⟩) hg).trans h.2⟩
theorem RdM.below {w w1 : World} {v : Value} {n B : Nat} {L : List Mc} (h : RdM w v n L) (hb : Below B w w1) (hn : n ≤ B) : RdM w1 v n L := by
  rcases h with h | ⟨g, of, cap, e, hg, hc⟩
  · exact .inl h
  · exact .inr ⟨g, of, cap, e, hg, fun i hi => (hc i hi).below hb (by omega)⟩
theorem RdM.wider {w : World} {v : Value} {n m : Nat} {L : List Mc} (h : RdM w v n L) (hn : n ≤ m) : RdM w v m L := by
  rcases h with h | ⟨g, of, cap, e, hg, hc⟩
  · exact .inl h
  · exact .inr ⟨g, of, cap, e, by omega, hc⟩
theorem RdM.form {w : World} {v : Value} {n : Nat} {L : List Mc} (h : RdM w v n L) : ∃ A cap, v = .slice A L.length cap := by
  rcases h with ⟨A, cap, rfl, _, rfl⟩ | ⟨g, of, cap, e, hg, hc⟩
  · exact ⟨_, _, rfl⟩
  · exact ⟨_, _, e⟩
theorem RdM.of_owns {w : World} {B n m : Nat} {t : TypeId} {v : Value} {L : List Mc} (h : w.ownsRow B t 2 v n (cellsM L)) (hl : L.length = n) (hm : w.heap.size ≤ m) : RdM w v m L := by
  subst hl
  rcases h.2 with ⟨e, c⟩ | ⟨g, cap, cur, e, hB, hb, h1, h2, h3, h4⟩
  · exact .inl ⟨none, 0, e, fun _ => rfl, List.length_eq_zero_iff.1 c⟩
  · have hb' : Blk w g t cur := hb
    refine .inr ⟨g, 0, cap, e, by have := hb'.lt; omega, fun i hi => ?_⟩
    have key : ∀ k x, k < L.length * 2 → (cellsM L)[k]? = some x → w.cell? ⟨g, k, none⟩ = some x := fun k x hk hx => by
      rw [← h4, List.getElem?_take_of_lt hk, Array.getElem?_toList] at hx
      rw [hb'.cell, hx]
    obtain ⟨a, b⟩ := cellsM_at L i hi
    rw [Nat.zero_add]
    exact ⟨key _ _ (by omega) a, key _ _ (by omega) b⟩
theorem takeM_succ {L : List Mc} {k : Nat} (h : k < L.length) : L.take (k + 1) = L.take k ++ [L.getD k mc0] := by
  rw [List.take_add_one, List.getElem?_eq_getElem h, List.getD_eq_getElem?_getD, List.getElem?_eq_getElem h]; rfl
theorem owns_mono2 {w : World} {B C n : Nat} {t : TypeId} {v : Value} {xs : List Value} (h : w.ownsRow B t 2 v n xs) (k : C ≤ B) : w.ownsRow C t 2 v n xs := by
  refine ⟨h.1, h.2.imp id ?_⟩
  rintro ⟨g, cap, cur, e, hB, r⟩
  exact ⟨g, cap, cur, e, Nat.le_trans k hB, r⟩
theorem info37 : (Tryd.prog.info? 37).map (fun i => (i.zero, i.size, i.bytes)) = some (some (.agg #[.string ByteArray.empty, .string ByteArray.empty]), 2, 32) := by kernel_rfl
set_option maxRecDepth 100000 in
set_option maxHeartbeats 1000000 in
theorem give_walk (v : Value) (L : List Mc) (hl : L.length ≤ 65536) (w : World) (h : RdM w v w.heap.size L) :
    Calls Tryd.prog 11 #[v] w fun x w' => ∃ v', x = .returned v' ∧ w'.ownsRow w.heap.size 37 2 v' L.length (cellsM L) ∧ Below w.heap.size w w' := by
  obtain ⟨ii, hi0, hz0, hz1, hz2⟩ := info_parts info37
  obtain ⟨A, cap, rfl⟩ := h.form
  have HI := Lib.hid h
  clear h
  go_enter Tryd.func11, Tryd.ntmps11
  go_upto_region 3 with (fail)
  go_loopw [3, 4] (fun u iv wr => ∃ i : Nat, iv = .int .i64 i ∧ i ≤ L.length ∧ wr.ownsRow w.heap.size 37 2 u i (cellsM (L.take i)) ∧ Below w.heap.size w wr) (fun _ iv _ => L.length - (intOf iv).toNat)
  case atStart => exact ⟨0, rfl, Nat.zero_le _, World.ownsRow_nil _ _ _ _, Below.refl _ _⟩
  case round =>
    obtain ⟨i, rfl, hi, own, bel⟩ := hrel
    have i0 : (0 : Int) ≤ i := by omega
    by_cases hlt : i < L.length
    · have hlt' : (i : Int) < (L.length : Int) := by omega
      rcases HI.out with ⟨_, _, _, _, hl0⟩ | ⟨g, o, cp, e, hg, hh⟩
      · rw [hl0] at hlt; simp at hlt
      cases e
      have HS := Lib.hid (takeM_succ hlt)
      obtain ⟨c0, c1⟩ := (hh i hlt).below bel hg
      have z0 := World.block_lt_of_cell? _ _ c0
      generalize L.getD i mc0 = E at *
      have hnw := Lib.hid (World.news_of_block (cs := #[.string E.n, .string E.v]) (t := 37) (fr := (0, 0)) (heap_alloc_new wr (.cells #[.string E.n, .string E.v] 37)))
      have hn1 := Lib.hid (cellsM_one [E])
      have hva := own.alloc (.cells #[.string E.n, .string E.v] 37)
      have HOW := Lib.hid own
      have hsz4 : w.heap.size ≤ (wr.alloc (.cells #[.string E.n, .string E.v] 37)).heap.size := by have := bel.size; simp; omega
      have BEL := Lib.hid bel
      clear hh own bel
      go_wp2_with (at_builtin; refine wpList_append_own_at _ rfl _ _ 29 rfl w.heap.size 37 ii (.agg #[.string ByteArray.empty, .string ByteArray.empty]) 2 32 Tryd.underlying29 hi0 hz0 hz1 hz2 rfl (by decide) _ i (cellsM (L.take i)) rfl hva ⟨wr.heap.size, 0, none⟩ 1 1 (cellsM1 E) rfl rfl hnw.out (by have := hn1.out; simpa [cellsM] using this) (by simp only [maxLen]; omega) (by omega) hsz4 ?_; intro v3 w4 own4 gr4 nil4 at4)
      rw [← cellsM_snoc, ← HS.out] at own4
      have B4 := below_grown' (below_al BEL.out _) gr4 (fun k e => (HOW.out.lt k e).1) hsz4
      have O4 := Lib.hid own4
      clear own4 gr4 nil4 at4 hva c0 c1 z0 hsz4
      go_wp2
      go_roundw
      case rel => exact ⟨i + 1, by go_num, by omega, O4.out, B4⟩
      case measure => simp [intOf]; omega
    · obtain rfl : i = L.length := by omega
      rw [List.take_length] at own
      have HOW := Lib.hid own
      clear own
      go_wp2_with (fail)
      go_ret
      exact ⟨_, rfl, HOW.out, bel⟩
set_option maxRecDepth 100000 in
theorem same_walk (e : Mc) (x : ByteArray) (g : Nat) (w : World) (hg : w.cell? ⟨g, 0, none⟩ = some (.string x)) :
    Calls Tryd.prog 29 #[.agg #[.string e.n, .string e.v], .pointer (some ⟨g, 0, none⟩)] w fun y w' => y = .returned (.bool (e.n.toList == x.toList)) ∧ Below w.heap.size w w' := by
  have B1 := below_al (Below.refl w.heap.size w) (.cells #[.string e.n, .string e.v] 37)
  have zg := World.block_lt_of_cell? _ _ hg
  have hB := Blk.new w 37 #[.string e.n, .string e.v]
  have hg1 := bel_cell (w := w) B1 hg
  have zg1 := World.block_lt_of_cell? _ _ hg1
  go_enter Tryd.func29, Tryd.ntmps29
  go_upto_region 1 with (fail)
  generalize w.alloc (Obj.cells #[.string e.n, .string e.v] 37) = W at *
  generalize hgg : w.heap.size = p at *
  have c0 : W.cell? ⟨p, 0, none⟩ = some (.string e.n) := by rw [hB.cell]; rfl
  have zp := hB.lt
  have B2 := Lib.hid B1
  clear hB B1 hg
  go_wp2
  go_ret
  exact ⟨by first | rfl | trivial, B2.out⟩
end Go.Proofs.YtacajmknlknjkaaDoor
