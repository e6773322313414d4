/- Names; all made sure. -/
import Derived.Test.YtgocmfjijoibkaaDoorK4
namespace Go.Proofs.YtgocmfjijoibkaaDoor
open Go.RowKit
set_option linter.unusedSimpArgs false
set_option linter.unusedVariables false
def NamesSaid (F : List Fl) (w : World) (y : Ending) (w' : World) : Prop :=
  ∃ v B0, y = .returned v ∧ w.heap.size ≤ B0 ∧ w'.ownsRow B0 9 1 v F.length ((namesF F).map Proofs.encStr) ∧ (v = .slice none 0 0 ↔ F = []) ∧ Below w.heap.size w w'
set_option maxHeartbeats 2000000 in
set_option maxRecDepth 100000 in
theorem names_walk (B d : Nat) (now sure : List Fl) (T : List Stp) (w : World) (h : DiskAt w B d now sure T) :
    Calls Tryd.prog 11 #[.pointer (some ⟨d, 0, none⟩)] w (NamesSaid now w) := by
  obtain ⟨_, ⟨rn, rs, sv, hd, hmn, hms, hne, hBn, hBs, how⟩, hAn, _, _⟩ := h
  have c0 : w.cell? ⟨d, 0, none⟩ = some (.map (some rn)) := by rw [hd.cell]; rfl
  have zd := hd.lt
  have KW := keys_walk rn w
  have SW := sorted_walk rn now w hmn hAn.1 hAn.2
  clear hd hmn hms how hAn
  go_enter Tryd.func11, Tryd.ntmps11
  go_upto_region 3 with (fail)
  go_wp2_with (fail)
  refine Calls.mono KW ?_
  rintro y w1 ⟨rfl, rfl⟩
  clear KW
  go_wp2_with (fail)
  refine Calls.mono SW ?_
  rintro y w2 ⟨v, rfl, h1, h2, h3⟩
  have H1 := Lib.hid h1
  have H2 := Lib.hid h2
  clear SW h1 h2
  go_wp2_with (fail)
  go_ret
  exact ⟨v, _, rfl, by simp, H1.out, H2.out, h3⟩
def SyncSaid (B d : Nat) (now : List Fl) (w : World) (y : Ending) (w' : World) : Prop := y = .returned (errI 0) ∧ DiskAt w' B d now now [] ∧ Fr B w w'
set_option maxHeartbeats 2000000 in
set_option maxRecDepth 100000 in
theorem sync_walk (B d : Nat) (now sure : List Fl) (T : List Stp) (w : World) (h : DiskAt w B d now sure T) :
    Calls Tryd.prog 13 #[.pointer (some ⟨d, 0, none⟩)] w (SyncSaid B d now w) := by
  obtain ⟨⟨hBd, hBw⟩, ⟨rn, rs, sv, hd, hmn, hms, hne, hBn, hBs, how⟩, hAn, _, _⟩ := h
  have c0 : w.cell? ⟨d, 0, none⟩ = some (.map (some rn)) := by rw [hd.cell]; rfl
  have zd := hd.lt
  have KW := clone_walk rn now w hmn
  have HD := Lib.hid hd
  have HM := Lib.hid hmn
  have HA := Lib.hid hAn
  clear hd hmn hms how hAn
  go_enter Tryd.func13, Tryd.ntmps13
  go_upto_region 3 with (fail)
  go_wp2_with (fail)
  refine Calls.mono KW ?_
  rintro y w1 ⟨rfl, hm1, hB1⟩
  clear KW c0 zd
  have hd1 := HD.out.below hB1
  have hmn1 := HM.out.kept (hB1.block rn HM.out.lt) (KeptY.below hB1)
  have hd2 := hd1.put 1 (.map (some w.heap.size)) rfl
  have hd3 := hd2.put 2 (.slice none 0 0) rfl
  have e1 := hd1.cell 1
  have e2 := hd1.cell 2
  have f1 := hd1.frozen 1
  have f2 := hd1.frozen 2
  have zd := hd1.lt
  have hlt := hm1.lt
  have hdw : d < w.heap.size := HD.out.lt
  have hHH : ∀ k, k ≠ d → ((w1.setCell ⟨d, 1, none⟩ (.map (some w.heap.size))).setCell ⟨d, 2, none⟩ (.slice none 0 0)).heap[k]? = w1.heap[k]? := fun k hk => by
    rw [Below.heap_setCell _ _ _ _ hk, Below.heap_setCell _ _ _ _ hk]
  have K3 : KeptY w1 ((w1.setCell ⟨d, 1, none⟩ (.map (some w.heap.size))).setCell ⟨d, 2, none⟩ (.slice none 0 0)) := ⟨by simp, fun g cs t fr a b e => (hHH g (fun k => by rw [k] at e; have hx : w1.heap[d]? = _ := hd1; rw [e] at hx; cases hx; exact a rfl)).trans e⟩
  have hrd : rn ≠ d := fun e => by
    obtain ⟨es, c, ho⟩ := hmn1.obj
    have hx : w1.heap[d]? = _ := hd1
    rw [← e, ho] at hx; cases hx
  have HR := Lib.hid (show SyncSaid B d now w (.returned (errI 0)) ((w1.setCell ⟨d, 1, none⟩ (.map (some w.heap.size))).setCell ⟨d, 2, none⟩ (.slice none 0 0)) from
    ⟨rfl, ⟨⟨hBd, by have := hB1.size; simp; omega⟩, ⟨rn, w.heap.size, _, hd3, hmn1.kept (hHH rn hrd) K3, hm1.kept (hHH _ (by omega)) K3, by have := HM.out.lt; omega, hBn, hBw, rfl, .inl ⟨rfl, rfl⟩⟩, HA.out, HA.out, by simp, fun s hs => by cases hs⟩,
      ⟨(hB1.mono hBw).trans ⟨rfl, rfl, rfl, by simp, fun k hk => hHH k (by omega)⟩, (KeptY.below hB1).trans K3⟩⟩)
  clear hd1 hmn1 hd2 hd3 hm1 hB1 hHH K3 hrd
  go_wp2_with (fail)
  go_ret
  exact HR.out
end Go.Proofs.YtgocmfjijoibkaaDoor
