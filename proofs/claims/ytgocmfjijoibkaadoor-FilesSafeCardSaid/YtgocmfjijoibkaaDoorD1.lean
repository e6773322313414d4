/- A step on files. -/
import Derived.Test.YtgocmfjijoibkaaDoorN1
import Derived.Maps.AppendAt
namespace Go.Proofs.YtgocmfjijoibkaaDoor
open Go.RowKit
set_option linter.unusedSimpArgs false
set_option linter.unusedVariables false
/-- A step: a write, a file taken away, or a rename. -/
structure Stp where
  name : ByteArray
  dst : ByteArray
  v : Value
  bs : List UInt8
  wr : Bool
  rm : Bool
def stV (s : Stp) : Array Value := #[.string s.name, .string s.dst, s.v, .bool s.wr, .bool s.rm]
/-- A step on files. -/
def doF (F : List Fl) (s : Stp) : List Fl :=
  if s.wr = true then withF F (s.name.data.toList, s.bs) else if s.rm = true then withoutF F s.name.data.toList
  else withF (withoutF F s.name.data.toList) (s.dst.data.toList, (lookF F s.name.data.toList).getD [])
theorem doF_asc {F : List Fl} (h : Asc F) (s : Stp) : Asc (doF F s) := by
  unfold doF
  split
  · exact h.with _
  · split
    · exact h.without _
    · exact (h.without _).with _
theorem without_le (F : List Fl) (n : List UInt8) : (withoutF F n).length ≤ F.length := List.length_filter_le _ _
theorem with_le (F : List Fl) (f : Fl) : (withF F f).length ≤ F.length + 1 := by unfold withF; rw [ins_len]; have := without_le F f.1; omega
def DoSaid (b : Nat) (F : List Fl) (s : Stp) (w : World) (y : Ending) (w' : World) : Prop := y = .returned (.tuple #[]) ∧ MapF w' b (doF F s) ∧ w.grownBy w' (some b) ∧ KeptY w w'
set_option maxRecDepth 100000 in
set_option maxHeartbeats 4000000 in
theorem do_walk (b : Nat) (F : List Fl) (s : Stp) (w : World) (h : MapF w b F) (hA : Asc F) (hF : F.length < 99999) (hn : s.name.size ≤ maxLen) (ht : s.dst.size ≤ maxLen) (hv : RdY w s.v s.bs) :
    Calls Tryd.prog 35 #[.map (some b), .agg (stV s)] w (DoSaid b F s w) := by
  obtain ⟨name, dst, v, bs, wr, rm⟩ := s
  dsimp only at hn ht hv
  obtain ⟨A, cap, rfl⟩ := hv.form
  have hb : b < w.heap.size := h.lt
  have hal := (Below.refl w.heap.size w).alloc (Nat.le_refl _) (.cells (stV ⟨name, dst, .slice A bs.length cap, bs, wr, rm⟩) 68)
  have hk1 : KeptY w (w.alloc (.cells (stV ⟨name, dst, .slice A bs.length cap, bs, wr, rm⟩) 68)) := KeptY.below hal
  have hg1 : w.grownBy (w.alloc (.cells (stV ⟨name, dst, .slice A bs.length cap, bs, wr, rm⟩) 68)) (some b) := World.grownBy_alloc w _ _
  have h1 := h.kept (hal.block b hb) hk1
  have hv1 := hv.kept hk1
  have hB := Blk.new w 68 (stV ⟨name, dst, .slice A bs.length cap, bs, wr, rm⟩)
  generalize hW : w.alloc (.cells (stV ⟨name, dst, .slice A bs.length cap, bs, wr, rm⟩) 68) = W at *
  generalize hp : w.heap.size = p at *
  have c0 : W.cell? ⟨p, 0, none⟩ = some (.string name) := by rw [hB.cell]; rfl
  have c1 : W.cell? ⟨p, 1, none⟩ = some (.string dst) := by rw [hB.cell]; rfl
  have c2 : W.cell? ⟨p, 2, none⟩ = some (.slice A bs.length cap) := by rw [hB.cell]; rfl
  have c3 : W.cell? ⟨p, 3, none⟩ = some (.bool wr) := by rw [hB.cell]; rfl
  have c4 : W.cell? ⟨p, 4, none⟩ = some (.bool rm) := by rw [hB.cell]; rfl
  have zp := hB.lt
  have hpb : p ≠ b := by omega
  cases wr with
  | true =>
    obtain ⟨w', hr, hM, hg, hk⟩ := h1.upd hA (by omega) name hn _ bs hv1
    have HR := Lib.hid (show DoSaid b F ⟨name, dst, .slice A bs.length cap, bs, true, rm⟩ w (.returned (.tuple #[])) w' from ⟨rfl, hM, hg1.trans hg, hk1.trans hk⟩)
    clear h hM hg hk h1 hv1 hB hal hk1 hg1 hv
    go_enter Tryd.func35, Tryd.ntmps35
    go_upto_region 4 with (fail)
    try rw [hW]
    go_wp2_with (fail)
    exact bodyPost_end (results_none rfl _ _ _) rfl HR.out
  | false =>
    cases rm with
    | true =>
      obtain ⟨w', hr, hM, hg, hk⟩ := h1.del hA name hn
      have HR := Lib.hid (show DoSaid b F ⟨name, dst, .slice A bs.length cap, bs, false, true⟩ w (.returned (.tuple #[])) w' from ⟨rfl, hM, hg1.trans hg, hk1.trans hk⟩)
      clear h hM hg hk h1 hv1 hB hal hk1 hg1 hv
      go_enter Tryd.func35, Tryd.ntmps35
      go_upto_region 4 with (fail)
      try rw [hW]
      go_wp2_with (fail)
      exact bodyPost_end (results_none rfl _ _ _) rfl HR.out
    | false =>
      obtain ⟨v0, _, hr0, hv0⟩ := h1.look name hn
      obtain ⟨A0, cap0, rfl⟩ := hv0.form
      obtain ⟨w1, hr1, hM1, hg2, hk2⟩ := h1.del hA name hn
      obtain ⟨w2, hr2, hM2, hg3, hk3⟩ := hM1.upd (hA.without _) (by have := without_le F name.data.toList; omega) dst ht _ _ (hv0.kept hk2)
      have HR := Lib.hid (show DoSaid b F ⟨name, dst, .slice A bs.length cap, bs, false, false⟩ w (.returned (.tuple #[])) w2 from ⟨rfl, hM2, (hg1.trans hg2).trans hg3, (hk1.trans hk2).trans hk3⟩)
      have e1 : w1.heap[p]? = W.heap[p]? := hg2.block p zp (fun e => hpb (Option.some.inj e))
      have d1 : w1.cell? ⟨p, 1, none⟩ = some (.string dst) := by rw [← c1]; exact World.cell?_of_block (a := ⟨p, 1, none⟩) e1
      have zp1 := World.block_lt_of_cell? _ _ d1
      clear h hM1 hM2 hg2 hg3 hk2 hk3 h1 hv1 hB hal hk1 hg1 hv hv0 e1
      go_enter Tryd.func35, Tryd.ntmps35
      go_upto_region 4 with (fail)
      try rw [hW]
      go_wp2_with (fail)
      exact bodyPost_end (results_none rfl _ _ _) rfl HR.out
end Go.Proofs.YtgocmfjijoibkaaDoor
