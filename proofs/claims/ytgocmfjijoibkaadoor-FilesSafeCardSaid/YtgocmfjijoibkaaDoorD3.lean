/- A step that is done. -/
import Derived.Test.YtgocmfjijoibkaaDoorD2
namespace Go.Proofs.YtgocmfjijoibkaaDoor
open Go.RowKit
set_option linter.unusedSimpArgs false
set_option linter.unusedVariables false
def errI (k : Int) : Value := if k = 0 then .nilIface else .iface 63 (.int .i64 k)
theorem errI_zero : errI 0 = .nilIface := rfl
/-- The disk's own blocks lie at B or above; below B nothing turns, nor do bytes. -/
def Fr (B : Nat) (w w' : World) : Prop := Below B w w' ∧ KeptY w w'
theorem own_ne {w : World} {B b n : Nat} {t : TypeId} {sz : Nat} {v : Value} {xs : List Value} (h : w.ownsRow B t sz v n xs) {o : Obj} (hb : w.heap[b]? = some o) (hne : ∀ cs, o ≠ Obj.cells cs t (0, 0)) : v.ownBlock ≠ some b := by
  intro e
  rcases h.2 with ⟨rfl, _⟩ | ⟨g, cap, cur, rfl, hB, hg, _⟩
  · cases e
  · cases e
    rw [hg] at hb
    exact hne _ (Option.some.inj hb).symm
theorem MapF.obj {w : World} {b : Nat} {F : List Fl} (h : MapF w b F) : ∃ es c, w.heap[b]? = some (Obj.map es c) := by
  obtain ⟨D, ⟨es, clock, h0, _⟩, _⟩ := h; exact ⟨es, clock, h0⟩
theorem row_kept {w w' : World} {B n : Nat} {t : TypeId} {sz : Nat} {v : Value} {xs : List Value} {row : Option Nat} (h : w.ownsRow B t sz v n xs) (hg : w.grownBy w' row) (hne : ∀ g, v.ownBlock = some g → row ≠ some g) : w'.ownsRow B t sz v n xs := by
  refine ⟨h.1, h.2.imp id ?_⟩
  rintro ⟨g, cap, cur, rfl, hB, hb, r⟩
  refine ⟨g, cap, cur, rfl, hB, ?_, r⟩
  rw [hg.block g (Array.getElem?_eq_some_iff.1 hb).1 (fun e => hne g rfl e.symm)]
  exact hb
theorem KeptY.row {w w1 : World} {B n : Nat} {sz : Nat} {v : Value} {xs : List Value} {t : TypeId} (h : w.grownBy w1 v.ownBlock) (ho : w.ownsRow B t sz v n xs) (ht : t = 62 ∨ t = 68) : KeptY w w1 := ⟨h.size, fun g cs t' fr a b e => (h.block g (Array.getElem?_eq_some_iff.1 e).1 (fun k => by
  rcases ho.2 with ⟨rfl, _⟩ | ⟨g', cap, cur, rfl, hB, hb, r⟩
  · cases k
  · cases k
    rw [hb] at e; cases e; exact ht.elim a b)).trans e⟩
def DoneSaid (B d : Nat) (now sure : List Fl) (T : List Stp) (s : Stp) (w : World) (y : Ending) (w' : World) : Prop :=
  (if 4096 ≤ T.length then y = .returned (errI 10) ∧ DiskAt w' B d now sure T else y = .returned (errI 0) ∧ DiskAt w' B d (doF now s) sure (T ++ [s])) ∧ Fr B w w'
set_option maxRecDepth 100000 in
set_option maxHeartbeats 8000000 in
theorem done_walk (B d : Nat) (now sure : List Fl) (T : List Stp) (s : Stp) (w : World) (h : DiskAt w B d now sure T) (hv : RdY w s.v s.bs) (hn : s.name.size ≤ 32) (ht : s.dst.size ≤ 32) (hb : s.bs.length ≤ 65536) (hlen : (doF now s).length ≤ 64) :
    Calls Tryd.prog 25 #[.pointer (some ⟨d, 0, none⟩), .agg (stV s)] w (DoneSaid B d now sure T s w) := by
  obtain ⟨⟨hBd, hBw⟩, ⟨rn, rs, sv, hd, hmn, hms, hne, hBn, hBs, how⟩, hAn, hAs, hTl, hTs⟩ := h
  obtain ⟨name, dst, v, bs, wr, rm⟩ := s
  dsimp only at hn ht hv hb
  obtain ⟨A, cap, rfl⟩ := hv.form
  have hal := (Below.refl w.heap.size w).alloc (Nat.le_refl _) (.cells (stV ⟨name, dst, .slice A bs.length cap, bs, wr, rm⟩) 68)
  have hk1 : KeptY w (w.alloc (.cells (stV ⟨name, dst, .slice A bs.length cap, bs, wr, rm⟩) 68)) := KeptY.below hal
  have hd1 := hd.alloc (.cells (stV ⟨name, dst, .slice A bs.length cap, bs, wr, rm⟩) 68)
  have hmn1 := hmn.kept (hal.block rn hmn.lt) hk1
  have hms1 := hms.kept (hal.block rs hms.lt) hk1
  have how1 := how.alloc (.cells (stV ⟨name, dst, .slice A bs.length cap, bs, wr, rm⟩) 68)
  have hv1 := hv.kept hk1
  have hB1 := Blk.new w 68 (stV ⟨name, dst, .slice A bs.length cap, bs, wr, rm⟩)
  have hT1 : ∀ s, s ∈ T → RdY (w.alloc (.cells (stV ⟨name, dst, .slice A bs.length cap, bs, wr, rm⟩) 68)) s.v s.bs ∧ s.name.size ≤ 32 ∧ s.dst.size ≤ 32 ∧ s.bs.length ≤ 65536 := fun s hs => ⟨(hTs s hs).1.kept hk1, (hTs s hs).2⟩
  have hFr1 : Fr B w (w.alloc (.cells (stV ⟨name, dst, .slice A bs.length cap, bs, wr, rm⟩) 68)) := ⟨hal.mono hBw, hk1⟩
  have hdp : d < w.heap.size := hd.lt
  have hnp : rn < w.heap.size := hmn.lt
  obtain ⟨As, cs, hsv⟩ : ∃ As cs, sv = .slice As T.length cs := by
    rcases how.2 with ⟨e, h0⟩ | ⟨g, cap, cur, e, _⟩
    · exact ⟨_, _, by rw [e, h0]⟩
    · exact ⟨_, _, e⟩
  subst hsv
  generalize hW : w.alloc (.cells (stV ⟨name, dst, .slice A bs.length cap, bs, wr, rm⟩) 68) = W at *
  have hpW : w.heap.size < W.heap.size := hB1.lt
  generalize hp : w.heap.size = p at *
  have hdr : d ≠ rn := fun e => by
    obtain ⟨es, c, ho⟩ := hmn1.obj
    rw [← e] at ho
    have hx : W.heap[d]? = _ := hd1
    rw [ho] at hx; cases hx
  have c2 : W.cell? ⟨d, 2, none⟩ = some (.slice As T.length cs) := by rw [hd1.cell]; rfl
  have c0 : W.cell? ⟨d, 0, none⟩ = some (.map (some rn)) := by rw [hd1.cell]; rfl
  have zd := hd1.lt
  by_cases hfull : 4096 ≤ T.length
  · have hfull' : (4096 : Int) ≤ (T.length : Int) := by omega
    have HR := Lib.hid (show DoneSaid B d now sure T ⟨name, dst, .slice A bs.length cap, bs, wr, rm⟩ w (.returned (errI 10)) W from ⟨by
      rw [if_pos hfull]
      exact ⟨rfl, ⟨⟨hBd, by omega⟩, ⟨rn, rs, _, hd1, hmn1, hms1, hne, hBn, hBs, how1⟩, hAn, hAs, hTl, hT1⟩⟩, hFr1⟩)
    clear hd hmn hms how hAn hAs hTs hT1 hv hv1 hal hk1 hd1 hmn1 hms1 how1 hB1 hFr1
    go_enter Tryd.func25, Tryd.ntmps25
    go_upto_region 1 with (fail)
    try rw [hW]
    go_wp2_with (fail)
    go_ret
    exact HR.out
  · have hfull' : ¬ (4096 : Int) ≤ (T.length : Int) := by omega
    have DW := Lib.hid (do_walk rn now ⟨name, dst, .slice A bs.length cap, bs, wr, rm⟩ W.drew (hmn1.kept rfl (KeptY.refl _)) hAn.1 (by omega) (by unfold maxLen; dsimp only; omega) (by unfold maxLen; dsimp only; omega) (hv1.kept (KeptY.refl _)))
    have p0 : W.cell? ⟨p, 0, none⟩ = some (.string name) := by rw [hB1.cell]; rfl
    have p1 : W.cell? ⟨p, 1, none⟩ = some (.string dst) := by rw [hB1.cell]; rfl
    have p2 : W.cell? ⟨p, 2, none⟩ = some (.slice A bs.length cap) := by rw [hB1.cell]; rfl
    have p3 : W.cell? ⟨p, 3, none⟩ = some (.bool wr) := by rw [hB1.cell]; rfl
    have p4 : W.cell? ⟨p, 4, none⟩ = some (.bool rm) := by rw [hB1.cell]; rfl
    go_enter Tryd.func25, Tryd.ntmps25
    go_upto_region 3 with (fail)
    try rw [hW]
    refine wp_region_still_tail 5 (by kernel_rfl) (by kernel_rfl) ?_
    simp only [List.take_succ_cons, List.take_zero, List.drop_succ_cons, List.drop_zero]
    iterate 5 still_step
    refine wpStill_nil ?_
    change wpList _ _ _ _ _ W.drew
    go_wp2_with (fail)
    refine DW.out.mono ?_
    rintro y w1 ⟨rfl, hM1, hg1, hkk1⟩
    have hpn : p ≠ rn := fun e => by omega
    have hd2 : Blk w1 d 62 #[.map (some rn), .map (some rs), .slice As T.length cs] := (hg1.block d hd1.lt (fun e => hdr (Option.some.inj e))).trans hd1
    have hB2 : Blk w1 p 68 (stV ⟨name, dst, .slice A bs.length cap, bs, wr, rm⟩) := (hg1.block p hB1.lt (fun e => hpn (Option.some.inj e))).trans hB1
    have hms2 : MapF w1 rs sure := hms1.kept (hg1.block rs hms1.lt (fun e => hne (Option.some.inj e).symm)) hkk1
    have how2 : w1.ownsRow B 68 5 (.slice As T.length cs) T.length (cellsT T) := by
      obtain ⟨es, c, ho⟩ := hmn1.obj
      refine row_kept (w := W.drew) how1 hg1 (fun g hg e => ?_)
      cases e
      exact own_ne how1 ho (fun _ => Obj.noConfusion) hg
    have hT2 : ∀ s, s ∈ T → RdY w1 s.v s.bs ∧ s.name.size ≤ 32 ∧ s.dst.size ≤ 32 ∧ s.bs.length ≤ 65536 := fun s hs => ⟨(hT1 s hs).1.kept hkk1, (hT1 s hs).2⟩
    have hv2 := hv1.kept (w1 := w1) hkk1
    have hFr2 : Fr B w w1 := ⟨hFr1.1.trans ⟨hg1.os, hg1.tape, hg1.output, hg1.size, fun k hk => hg1.block k (show k < W.heap.size by omega) (fun e => by have := Option.some.inj e; omega)⟩, hFr1.2.trans hkk1⟩
    have hM2 := hM1
    have NO := Lib.hid (show ∀ g, (Value.slice As T.length cs).ownBlock = some g → g ≠ d ∧ g ≠ p ∧ g ≠ rn ∧ g ≠ rs from fun g hg => by
      obtain ⟨es, c, ho⟩ := hM1.obj
      obtain ⟨es2, c2, ho2⟩ := hms2.obj
      refine ⟨fun e => own_ne how2 hd2 (fun cs h => by cases h) (e ▸ hg), fun e => ?_, fun e => own_ne how2 ho (fun _ => Obj.noConfusion) (e ▸ hg), fun e => own_ne how2 ho2 (fun _ => Obj.noConfusion) (e ▸ hg)⟩
      have hlt := (how.lt g hg).2
      omega)
    clear c0 c2 p0 p1 p2 p3 p4 hd1 hB1 hms1 how1 hT1 hv1 hFr1 hk1 hmn1 hal hd hmn hms how hTs hv DW zd hM1 hg1 hkk1 hW
    have c2 : w1.cell? ⟨d, 2, none⟩ = some (.slice As T.length cs) := by rw [hd2.cell]; rfl
    have p0 : w1.cell? ⟨p, 0, none⟩ = some (.string name) := by rw [hB2.cell]; rfl
    have p1 : w1.cell? ⟨p, 1, none⟩ = some (.string dst) := by rw [hB2.cell]; rfl
    have p2 : w1.cell? ⟨p, 2, none⟩ = some (.slice A bs.length cap) := by rw [hB2.cell]; rfl
    have p3 : w1.cell? ⟨p, 3, none⟩ = some (.bool wr) := by rw [hB2.cell]; rfl
    have p4 : w1.cell? ⟨p, 4, none⟩ = some (.bool rm) := by rw [hB2.cell]; rfl
    have zd := hd2.lt
    have zp := hB2.lt
    have fd : w1.frozen? ⟨d, 2, none⟩ = false := hd2.frozen 2
    have HD := Lib.hid hd2
    have HB := Lib.hid hB2
    have HMS := Lib.hid hms2
    have HMN := Lib.hid hM2
    have OW := Lib.hid how2
    have HT := Lib.hid hT2
    have HV := Lib.hid hv2
    have FR := Lib.hid hFr2
    have HN := Lib.hid hn
    have HDN := Lib.hid (And.intro ht hb)
    have HLEN := Lib.hid hlen
    have HX := Lib.hid (And.intro hAn hAs)
    have HBW := Lib.hid (show B ≤ w1.heap.size by have := hFr2.1.size; omega)
    have OWA := Lib.hid (how2.alloc (.cells #[.string name, .string dst, .slice A bs.length cap, .bool wr, .bool rm] 68))
    have HDA := Lib.hid (hd2.alloc (.cells #[.string name, .string dst, .slice A bs.length cap, .bool wr, .bool rm] 68))
    have NEW := Lib.hid (show ∀ j u, (stL ⟨name, dst, .slice A bs.length cap, bs, wr, rm⟩)[j]? = some u → (w1.alloc (.cells #[.string name, .string dst, .slice A bs.length cap, .bool wr, .bool rm] 68)).cell? ((⟨w1.heap.size, 0, none⟩ : Addr).add j) = some u from fun j u hj => by
      have hn := Blk.new w1 68 #[.string name, .string dst, .slice A bs.length cap, .bool wr, .bool rm]
      rw [show ((⟨w1.heap.size, 0, none⟩ : Addr).add j) = ⟨w1.heap.size, j, none⟩ from by unfold Addr.add; split <;> simp_all, hn.cell, ← hj, ← Array.getElem?_toList]; rfl)
    have ND := Lib.hid (show some d ≠ (Value.slice As T.length cs).ownBlock from fun e => (NO.out d e.symm).1 rfl)
    have NP := Lib.hid (show some p ≠ (Value.slice As T.length cs).ownBlock from fun e => (NO.out p e.symm).2.1 rfl)
    have NDS := Lib.hid (show d ≠ rs from fun e => by
      obtain ⟨es, c, ho⟩ := hms2.obj
      have hx : w1.heap[d]? = _ := hd2
      rw [e, ho] at hx; cases hx)
    have npd : p ≠ d := by omega
    have hT1048 : T.length + 1 ≤ 1048576 := by omega
    clear hd2 hB2 hms2 hM2 how2 hT2 hv2 hFr2 hn ht hb hlen hAn hAs hBw
    go_upto_region 4 with (fail)
    refine wp_region_noPanic ?_
    refine wp_region_held_drew (S := (fun w' => w1.heap.size ≤ w'.heap.size ∧ w'.heap[p]? = w1.heap[p]?)) (by kernel_rfl) ?_ (fun hHeld => ?_)
    · exact ⟨Nat.le_refl _, rfl⟩
    refine reg_take (i := 0) (oi := _) (v := ?_) rfl (by kernel_rfl) (by kernel_rfl) (by kernel_rfl) (fun _ _ _ h => h) (by rfl) ?_ (by assumption) ?_
    rotate_left
    · intro w hSw; (try dsimp only at hSw); replace p0 := (World.cell?_of_block hSw.2).trans p0; replace p1 := (World.cell?_of_block hSw.2).trans p1; replace p2 := (World.cell?_of_block hSw.2).trans p2; replace p3 := (World.cell?_of_block hSw.2).trans p3; replace p4 := (World.cell?_of_block hSw.2).trans p4; replace zp := Nat.lt_of_lt_of_le zp hSw.1; go_simp; try with_reducible rfl
    (try simp only [Act.put, List.setIfInBounds_toArray, List.set_cons_zero, List.set_cons_succ])
    refine reg_take (i := 1) (oi := _) (v := ?_) rfl (by kernel_rfl) (by kernel_rfl) (by kernel_rfl) (fun _ _ _ h => h) (by rfl) ?_ (by assumption) ?_
    rotate_left
    · intro w hSw; (try dsimp only at hSw); replace p0 := (World.cell?_of_block hSw.2).trans p0; replace p1 := (World.cell?_of_block hSw.2).trans p1; replace p2 := (World.cell?_of_block hSw.2).trans p2; replace p3 := (World.cell?_of_block hSw.2).trans p3; replace p4 := (World.cell?_of_block hSw.2).trans p4; replace zp := Nat.lt_of_lt_of_le zp hSw.1; go_simp; try with_reducible rfl
    (try simp only [Act.put, List.setIfInBounds_toArray, List.set_cons_zero, List.set_cons_succ])
    refine reg_take (i := 2) (oi := _) (v := ?_) rfl (by kernel_rfl) (by kernel_rfl) (by kernel_rfl) (fun _ _ _ h => h) (by rfl) ?_ (by assumption) ?_
    rotate_left
    · intro w hSw; (try dsimp only at hSw); replace p0 := (World.cell?_of_block hSw.2).trans p0; replace p1 := (World.cell?_of_block hSw.2).trans p1; replace p2 := (World.cell?_of_block hSw.2).trans p2; replace p3 := (World.cell?_of_block hSw.2).trans p3; replace p4 := (World.cell?_of_block hSw.2).trans p4; replace zp := Nat.lt_of_lt_of_le zp hSw.1; go_simp; try with_reducible rfl
    (try simp only [Act.put, List.setIfInBounds_toArray, List.set_cons_zero, List.set_cons_succ])
    refine reg_take (i := 3) (oi := _) (v := ?_) rfl (by kernel_rfl) (by kernel_rfl) (by kernel_rfl) (fun _ _ _ h => h) (by rfl) ?_ (by assumption) ?_
    rotate_left
    · intro w hSw; (try dsimp only at hSw); replace p0 := (World.cell?_of_block hSw.2).trans p0; replace p1 := (World.cell?_of_block hSw.2).trans p1; replace p2 := (World.cell?_of_block hSw.2).trans p2; replace p3 := (World.cell?_of_block hSw.2).trans p3; replace p4 := (World.cell?_of_block hSw.2).trans p4; replace zp := Nat.lt_of_lt_of_le zp hSw.1; go_simp; try with_reducible rfl
    (try simp only [Act.put, List.setIfInBounds_toArray, List.set_cons_zero, List.set_cons_succ])
    refine reg_take (i := 5) (oi := _) (v := ?_) rfl (by kernel_rfl) (by kernel_rfl) (by kernel_rfl) (fun _ _ _ h => h) (by rfl) ?_ (by assumption) ?_
    rotate_left
    · intro w hSw; (try dsimp only at hSw); replace p0 := (World.cell?_of_block hSw.2).trans p0; replace p1 := (World.cell?_of_block hSw.2).trans p1; replace p2 := (World.cell?_of_block hSw.2).trans p2; replace p3 := (World.cell?_of_block hSw.2).trans p3; replace p4 := (World.cell?_of_block hSw.2).trans p4; replace zp := Nat.lt_of_lt_of_le zp hSw.1; go_simp; try with_reducible rfl
    (try simp only [Act.put, List.setIfInBounds_toArray, List.set_cons_zero, List.set_cons_succ])
    refine wpAnyH_ready (rs := [4, 6]) (by kernel_rfl) (by simp) ?_
    refine reg_each (o := _) rfl (fun K hK => ?_) ?_
    · skip
      go_simp
      refine hK.out _ _ ?_ (fun hHeld2 => ?_)
      · exact hHeld
      clear hK K hHeld
      have hHeld := hHeld2
      clear hHeld2
      (try simp only [Act.put, List.setIfInBounds_toArray, List.set_cons_zero, List.set_cons_succ])
      refine wpAnyH_ready (rs := [6]) (by kernel_rfl) (by simp) ?_
      refine reg_each (o := _) rfl (fun K hK => ?_) ?_
      · skip
        go_simp
        refine hK.out _ _ ?_ (fun hHeld2 => ?_)
        · exact ⟨by simp, Below.heap_alloc w1 _ p zp⟩
        clear hK K hHeld
        have hHeld := hHeld2
        clear hHeld2
        (try simp only [Act.put, List.setIfInBounds_toArray, List.set_cons_zero, List.set_cons_succ])
        refine wpAnyH_ready (rs := [7]) (by kernel_rfl) (by simp) ?_
        refine reg_each (o := _) rfl (fun K hK => ?_) ?_
        · skip
          refine step_append_s rfl (.tmp 22) (.tmp 24) rfl B (.slice As T.length cs) T ⟨name, dst, .slice A bs.length cap, bs, wr, rm⟩ trivial ⟨w1.heap.size, 0, none⟩ 1 rfl rfl OWA.out NEW.out hT1048 (Nat.le_trans HBW.out (by simp)) ?_
          intro v2 w2 own2 gr2 at2
          have bq2 : Blk w2 d 62 #[.map (some rn), .map (some rs), .slice As T.length cs] := (gr2.block d (by simp; omega) (ND.out)).trans HDA.out
          have z2 := bq2.frozen 2
          have c22 : w2.cell? ⟨d, 2, none⟩ = some (.slice As T.length cs) := by rw [bq2.cell]; rfl
          have zd2 := bq2.lt
          have bb2 : w2.heap[p]? = w1.heap[p]? := (gr2.block p (by simp; omega) NP.out).trans (Below.heap_alloc w1 _ p zp)
          obtain ⟨As2, cs2, hv2⟩ : ∃ As2 cs2, v2 = .slice As2 (T.length + 1) cs2 := by
            rcases own2.2 with ⟨e, h0⟩ | ⟨g, cap, cur, e, _⟩
            · simp at h0
            · exact ⟨some ⟨g, 0, none⟩, cap, e.trans (by simp)⟩
          subst hv2
          refine hK.out _ _ ?_ (fun hHeld2 => ?_)
          · exact ⟨Nat.le_trans (by simp) gr2.size, bb2⟩
          clear hK K hHeld
          have hHeld := hHeld2
          clear hHeld2
          (try simp only [Act.put, List.setIfInBounds_toArray, List.set_cons_zero, List.set_cons_succ])
          refine reg_take (i := 8) (oi := _) (v := ?_) rfl (by kernel_rfl) (by kernel_rfl) (by kernel_rfl) (fun _ _ _ h => h) (by rfl) ?_ (by assumption) ?_
          rotate_left
          · intro w hSw; (try dsimp only at hSw); replace p0 := (World.cell?_of_block hSw.2).trans p0; replace p1 := (World.cell?_of_block hSw.2).trans p1; replace p2 := (World.cell?_of_block hSw.2).trans p2; replace p3 := (World.cell?_of_block hSw.2).trans p3; replace p4 := (World.cell?_of_block hSw.2).trans p4; replace zp := Nat.lt_of_lt_of_le zp hSw.1; go_simp; try with_reducible rfl
          (try simp only [Act.put, List.setIfInBounds_toArray, List.set_cons_zero, List.set_cons_succ])
          refine reg_take (i := 9) (oi := _) (v := ?_) rfl (by kernel_rfl) (by kernel_rfl) (by kernel_rfl) (fun _ _ _ h => h) (by rfl) ?_ (by assumption) ?_
          rotate_left
          · intro w hSw; (try dsimp only at hSw); replace p0 := (World.cell?_of_block hSw.2).trans p0; replace p1 := (World.cell?_of_block hSw.2).trans p1; replace p2 := (World.cell?_of_block hSw.2).trans p2; replace p3 := (World.cell?_of_block hSw.2).trans p3; replace p4 := (World.cell?_of_block hSw.2).trans p4; replace zp := Nat.lt_of_lt_of_le zp hSw.1; go_simp; try with_reducible rfl
          (try simp only [Act.put, List.setIfInBounds_toArray, List.set_cons_zero, List.set_cons_succ])
          refine wpAnyH_ready (rs := [10]) (by kernel_rfl) (by simp) ?_
          refine reg_each (o := _) rfl (fun K hK => ?_) ?_
          · skip
            go_simp
            refine hK.out _ _ ?_ (fun hHeld2 => ?_)
            · exact ⟨by have h := gr2.size; simp at h ⊢; omega, (Below.heap_setCell w2 _ _ p npd).trans bb2⟩
            clear hK K hHeld
            have hHeld := hHeld2
            clear hHeld2
            (try simp only [Act.put, List.setIfInBounds_toArray, List.set_cons_zero, List.set_cons_succ])
            refine wpAnyH_done (by kernel_rfl) ?_ _
            refine NoPanic.normal ?_
            go_wp2_with (fail)
            go_ret
            have wA : ∀ k, k < w1.heap.size → (w1.alloc (Obj.cells #[.string name, .string dst, .slice A bs.length cap, .bool wr, .bool rm] 68)).heap[k]? = w1.heap[k]? := fun k hk => Below.heap_alloc w1 _ k hk
            have al1 := (Below.refl w1.heap.size w1).alloc (Nat.le_refl _) (Obj.cells #[.string name, .string dst, .slice A bs.length cap, .bool wr, .bool rm] 68)
            have KA : KeptY w1 (w1.alloc (Obj.cells #[.string name, .string dst, .slice A bs.length cap, .bool wr, .bool rm] 68)) := KeptY.below al1
            have KB : KeptY (w1.alloc (Obj.cells #[.string name, .string dst, .slice A bs.length cap, .bool wr, .bool rm] 68)) w2 := show KeptY (w1.alloc _).drew w2 from KeptY.row (w := (w1.alloc _).drew) gr2 OWA.out (.inr rfl)
            have KC : KeptY w2 (w2.setCell ⟨d, 2, none⟩ (.slice As2 (T.length + 1) cs2)) := ⟨by simp, fun g cs t fr a b e => (Below.heap_setCell w2 _ _ g (fun k => by rw [k] at e; have hx : w2.heap[d]? = _ := bq2; rw [e] at hx; cases hx; exact a rfl)).trans e⟩
            have K1 := (KA.trans KB).trans KC
            have HH : ∀ k, k < w1.heap.size → k ≠ d → some k ≠ (Value.slice As T.length cs).ownBlock → (w2.setCell ⟨d, 2, none⟩ (.slice As2 (T.length + 1) cs2)).heap[k]? = w1.heap[k]? := fun k hk h1 h2 => (Below.heap_setCell w2 _ _ k h1).trans ((gr2.block k (by simp; omega) h2).trans (wA k hk))
            have ow3 : (w2.setCell ⟨d, 2, none⟩ (.slice As2 (T.length + 1) cs2)).ownsRow B 68 5 (.slice As2 (T.length + 1) cs2) (T ++ [(⟨name, dst, .slice A bs.length cap, bs, wr, rm⟩ : Stp)]).length (cellsT (T ++ [(⟨name, dst, .slice A bs.length cap, bs, wr, rm⟩ : Stp)])) := by
              refine row_kept (w := w2) (row := some d) own2 ⟨rfl, rfl, rfl, by simp, fun k hk h => Below.heap_setCell w2 _ _ k (fun e => h (by rw [e]))⟩ (fun g hg e => ?_)
              cases e
              exact own_ne own2 bq2 (fun cs h => by cases h) hg
            refine ⟨?_, ?_⟩
            · rw [if_neg hfull]
              refine ⟨rfl, ⟨⟨hBd, ?_⟩, ⟨rn, rs, _, bq2.put 2 _ rfl, ?_, ?_, hne, hBn, hBs, ow3⟩, ⟨doF_asc HX.out.1.1 _, HLEN.out⟩, HX.out.2, ?_, ?_⟩⟩
              · exact Nat.le_trans HBW.out K1.1
              · exact HMN.out.kept (HH rn HMN.out.lt (Ne.symm hdr) (fun e => (NO.out rn e.symm).2.2.1 rfl)) K1
              · exact HMS.out.kept (HH rs HMS.out.lt (Ne.symm NDS.out) (fun e => (NO.out rs e.symm).2.2.2 rfl)) K1
              · simp; omega
              · intro s hs
                rcases List.mem_append.1 hs with hs | hs
                · exact ⟨(HT.out s hs).1.kept K1, (HT.out s hs).2⟩
                · cases List.mem_singleton.1 hs
                  exact ⟨HV.out.kept K1, HN.out, HDN.out.1, HDN.out.2⟩
            · refine ⟨FR.out.1.trans ⟨gr2.os, gr2.tape, gr2.output, K1.1, fun k hk => HH k (Nat.lt_of_lt_of_le hk HBW.out) (by omega) (fun e => ?_)⟩, FR.out.2.trans K1⟩
              have := (OW.out.lt k e.symm).1
              omega
          exact AllReadyH.nil
        exact AllReadyH.nil
      exact AllReadyH.nil
    refine reg_each (o := _) rfl (fun K hK => ?_) ?_
    · skip
      go_simp
      refine hK.out _ _ ?_ (fun hHeld2 => ?_)
      · exact ⟨by simp, Below.heap_alloc w1 _ p zp⟩
      clear hK K hHeld
      have hHeld := hHeld2
      clear hHeld2
      (try simp only [Act.put, List.setIfInBounds_toArray, List.set_cons_zero, List.set_cons_succ])
      refine wpAnyH_ready (rs := [4]) (by kernel_rfl) (by simp) ?_
      refine reg_each (o := _) rfl (fun K hK => ?_) ?_
      · skip
        go_simp
        refine hK.out _ _ ?_ (fun hHeld2 => ?_)
        · exact hHeld
        clear hK K hHeld
        have hHeld := hHeld2
        clear hHeld2
        (try simp only [Act.put, List.setIfInBounds_toArray, List.set_cons_zero, List.set_cons_succ])
        refine wpAnyH_ready (rs := [7]) (by kernel_rfl) (by simp) ?_
        refine reg_each (o := _) rfl (fun K hK => ?_) ?_
        · skip
          refine step_append_s rfl (.tmp 22) (.tmp 24) rfl B (.slice As T.length cs) T ⟨name, dst, .slice A bs.length cap, bs, wr, rm⟩ trivial ⟨w1.heap.size, 0, none⟩ 1 rfl rfl OWA.out NEW.out hT1048 (Nat.le_trans HBW.out (by simp)) ?_
          intro v2 w2 own2 gr2 at2
          have bq2 : Blk w2 d 62 #[.map (some rn), .map (some rs), .slice As T.length cs] := (gr2.block d (by simp; omega) (ND.out)).trans HDA.out
          have z2 := bq2.frozen 2
          have c22 : w2.cell? ⟨d, 2, none⟩ = some (.slice As T.length cs) := by rw [bq2.cell]; rfl
          have zd2 := bq2.lt
          have bb2 : w2.heap[p]? = w1.heap[p]? := (gr2.block p (by simp; omega) NP.out).trans (Below.heap_alloc w1 _ p zp)
          obtain ⟨As2, cs2, hv2⟩ : ∃ As2 cs2, v2 = .slice As2 (T.length + 1) cs2 := by
            rcases own2.2 with ⟨e, h0⟩ | ⟨g, cap, cur, e, _⟩
            · simp at h0
            · exact ⟨some ⟨g, 0, none⟩, cap, e.trans (by simp)⟩
          subst hv2
          refine hK.out _ _ ?_ (fun hHeld2 => ?_)
          · exact ⟨Nat.le_trans (by simp) gr2.size, bb2⟩
          clear hK K hHeld
          have hHeld := hHeld2
          clear hHeld2
          (try simp only [Act.put, List.setIfInBounds_toArray, List.set_cons_zero, List.set_cons_succ])
          refine reg_take (i := 8) (oi := _) (v := ?_) rfl (by kernel_rfl) (by kernel_rfl) (by kernel_rfl) (fun _ _ _ h => h) (by rfl) ?_ (by assumption) ?_
          rotate_left
          · intro w hSw; (try dsimp only at hSw); replace p0 := (World.cell?_of_block hSw.2).trans p0; replace p1 := (World.cell?_of_block hSw.2).trans p1; replace p2 := (World.cell?_of_block hSw.2).trans p2; replace p3 := (World.cell?_of_block hSw.2).trans p3; replace p4 := (World.cell?_of_block hSw.2).trans p4; replace zp := Nat.lt_of_lt_of_le zp hSw.1; go_simp; try with_reducible rfl
          (try simp only [Act.put, List.setIfInBounds_toArray, List.set_cons_zero, List.set_cons_succ])
          refine reg_take (i := 9) (oi := _) (v := ?_) rfl (by kernel_rfl) (by kernel_rfl) (by kernel_rfl) (fun _ _ _ h => h) (by rfl) ?_ (by assumption) ?_
          rotate_left
          · intro w hSw; (try dsimp only at hSw); replace p0 := (World.cell?_of_block hSw.2).trans p0; replace p1 := (World.cell?_of_block hSw.2).trans p1; replace p2 := (World.cell?_of_block hSw.2).trans p2; replace p3 := (World.cell?_of_block hSw.2).trans p3; replace p4 := (World.cell?_of_block hSw.2).trans p4; replace zp := Nat.lt_of_lt_of_le zp hSw.1; go_simp; try with_reducible rfl
          (try simp only [Act.put, List.setIfInBounds_toArray, List.set_cons_zero, List.set_cons_succ])
          refine wpAnyH_ready (rs := [10]) (by kernel_rfl) (by simp) ?_
          refine reg_each (o := _) rfl (fun K hK => ?_) ?_
          · skip
            go_simp
            refine hK.out _ _ ?_ (fun hHeld2 => ?_)
            · exact ⟨by have h := gr2.size; simp at h ⊢; omega, (Below.heap_setCell w2 _ _ p npd).trans bb2⟩
            clear hK K hHeld
            have hHeld := hHeld2
            clear hHeld2
            (try simp only [Act.put, List.setIfInBounds_toArray, List.set_cons_zero, List.set_cons_succ])
            refine wpAnyH_done (by kernel_rfl) ?_ _
            refine NoPanic.normal ?_
            go_wp2_with (fail)
            go_ret
            have wA : ∀ k, k < w1.heap.size → (w1.alloc (Obj.cells #[.string name, .string dst, .slice A bs.length cap, .bool wr, .bool rm] 68)).heap[k]? = w1.heap[k]? := fun k hk => Below.heap_alloc w1 _ k hk
            have al1 := (Below.refl w1.heap.size w1).alloc (Nat.le_refl _) (Obj.cells #[.string name, .string dst, .slice A bs.length cap, .bool wr, .bool rm] 68)
            have KA : KeptY w1 (w1.alloc (Obj.cells #[.string name, .string dst, .slice A bs.length cap, .bool wr, .bool rm] 68)) := KeptY.below al1
            have KB : KeptY (w1.alloc (Obj.cells #[.string name, .string dst, .slice A bs.length cap, .bool wr, .bool rm] 68)) w2 := show KeptY (w1.alloc _).drew w2 from KeptY.row (w := (w1.alloc _).drew) gr2 OWA.out (.inr rfl)
            have KC : KeptY w2 (w2.setCell ⟨d, 2, none⟩ (.slice As2 (T.length + 1) cs2)) := ⟨by simp, fun g cs t fr a b e => (Below.heap_setCell w2 _ _ g (fun k => by rw [k] at e; have hx : w2.heap[d]? = _ := bq2; rw [e] at hx; cases hx; exact a rfl)).trans e⟩
            have K1 := (KA.trans KB).trans KC
            have HH : ∀ k, k < w1.heap.size → k ≠ d → some k ≠ (Value.slice As T.length cs).ownBlock → (w2.setCell ⟨d, 2, none⟩ (.slice As2 (T.length + 1) cs2)).heap[k]? = w1.heap[k]? := fun k hk h1 h2 => (Below.heap_setCell w2 _ _ k h1).trans ((gr2.block k (by simp; omega) h2).trans (wA k hk))
            have ow3 : (w2.setCell ⟨d, 2, none⟩ (.slice As2 (T.length + 1) cs2)).ownsRow B 68 5 (.slice As2 (T.length + 1) cs2) (T ++ [(⟨name, dst, .slice A bs.length cap, bs, wr, rm⟩ : Stp)]).length (cellsT (T ++ [(⟨name, dst, .slice A bs.length cap, bs, wr, rm⟩ : Stp)])) := by
              refine row_kept (w := w2) (row := some d) own2 ⟨rfl, rfl, rfl, by simp, fun k hk h => Below.heap_setCell w2 _ _ k (fun e => h (by rw [e]))⟩ (fun g hg e => ?_)
              cases e
              exact own_ne own2 bq2 (fun cs h => by cases h) hg
            refine ⟨?_, ?_⟩
            · rw [if_neg hfull]
              refine ⟨rfl, ⟨⟨hBd, ?_⟩, ⟨rn, rs, _, bq2.put 2 _ rfl, ?_, ?_, hne, hBn, hBs, ow3⟩, ⟨doF_asc HX.out.1.1 _, HLEN.out⟩, HX.out.2, ?_, ?_⟩⟩
              · exact Nat.le_trans HBW.out K1.1
              · exact HMN.out.kept (HH rn HMN.out.lt (Ne.symm hdr) (fun e => (NO.out rn e.symm).2.2.1 rfl)) K1
              · exact HMS.out.kept (HH rs HMS.out.lt (Ne.symm NDS.out) (fun e => (NO.out rs e.symm).2.2.2 rfl)) K1
              · simp; omega
              · intro s hs
                rcases List.mem_append.1 hs with hs | hs
                · exact ⟨(HT.out s hs).1.kept K1, (HT.out s hs).2⟩
                · cases List.mem_singleton.1 hs
                  exact ⟨HV.out.kept K1, HN.out, HDN.out.1, HDN.out.2⟩
            · refine ⟨FR.out.1.trans ⟨gr2.os, gr2.tape, gr2.output, K1.1, fun k hk => HH k (Nat.lt_of_lt_of_le hk HBW.out) (by omega) (fun e => ?_)⟩, FR.out.2.trans K1⟩
              have := (OW.out.lt k e.symm).1
              omega
          exact AllReadyH.nil
        exact AllReadyH.nil
      exact AllReadyH.nil
    exact AllReadyH.nil
end Go.Proofs.YtgocmfjijoibkaaDoor
