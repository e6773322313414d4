/- A crash. -/
import Derived.Test.YtgocmfjijoibkaaDoorL1
namespace Go.Proofs.YtgocmfjijoibkaaDoor
open Go.RowKit
set_option linter.unusedSimpArgs false
set_option linter.unusedVariables false
def CrI (sure : List Fl) (T : List Stp) (r : Nat) (w1 : World) (i : Nat) (wl : World) : Prop := MapF wl r (runF sure (T.take i)) ∧ w1.grownBy wl (some r) ∧ KeptY w1 wl
def crashBad (n : Nat) (st pt : Int) : Prop := st < 0 ∨ (n : Int) < st ∨ pt < 0
instance (n : Nat) (st pt : Int) : Decidable (crashBad n st pt) := by unfold crashBad; infer_instance
def CrashSaid (B d : Nat) (now sure : List Fl) (T : List Stp) (st pt : Int) (w : World) (y : Ending) (w' : World) : Prop :=
  (if crashBad T.length st pt then y = .returned (errI 1) ∧ DiskAt w' B d now sure T else y = .returned (errI 0) ∧ DiskAt w' B d (crashF sure T st.toNat pt.toNat) (crashF sure T st.toNat pt.toNat) []) ∧ Fr B w w'
/-- The end of a crash: three stores. -/
theorem crash_end (B d rn rs : Nat) (T : List Stp) (As : Option Addr) (cs k p : Nat) (sure now : List Fl) (w w1 wl w4 : World) (hBd : B ≤ d) (hBw : B ≤ w.heap.size) (hd : Blk w d 62 #[.map (some rn), .map (some rs), .slice As T.length cs]) (hB1 : Below w.heap.size w w1)
    (hM : MapF wl w.heap.size (crashF sure T k p)) (hg : w1.grownBy wl (some w.heap.size)) (hkk : KeptY w1 wl) (hm4 : MapF w4 wl.heap.size (crashF sure T k p)) (hB4 : Below wl.heap.size wl w4) (hAs : Asc sure) (hlim : (crashF sure T k p).length ≤ 64) (hbad : ¬ crashBad T.length k p) :
    CrashSaid B d now sure T k p w (.returned (errI 0)) (((w4.setCell ⟨d, 0, none⟩ (.map (some w.heap.size))).setCell ⟨d, 1, none⟩ (.map (some wl.heap.size))).setCell ⟨d, 2, none⟩ (.slice none 0 0)) := by
  have hdw := hd.lt
  have hlr := hM.lt
  have hdl : wl.heap[d]? = w1.heap[d]? := hg.block d (by have := hB1.size; omega) (fun e => by have := Option.some.inj e; omega)
  have hd4 : Blk w4 d 62 #[.map (some rn), .map (some rs), .slice As T.length cs] := (hB4.block d (by omega)).trans (hdl.trans (hd.below hB1))
  have hd5 := hd4.put 0 (.map (some w.heap.size)) rfl
  have hd6 := hd5.put 1 (.map (some wl.heap.size)) rfl
  have hd7 := hd6.put 2 (.slice none 0 0) rfl
  have hHH : ∀ j, j ≠ d → (((w4.setCell ⟨d, 0, none⟩ (.map (some w.heap.size))).setCell ⟨d, 1, none⟩ (.map (some wl.heap.size))).setCell ⟨d, 2, none⟩ (.slice none 0 0)).heap[j]? = w4.heap[j]? := fun j hj => by
    rw [Below.heap_setCell _ _ _ _ hj, Below.heap_setCell _ _ _ _ hj, Below.heap_setCell _ _ _ _ hj]
  have K4 : KeptY w4 (((w4.setCell ⟨d, 0, none⟩ (.map (some w.heap.size))).setCell ⟨d, 1, none⟩ (.map (some wl.heap.size))).setCell ⟨d, 2, none⟩ (.slice none 0 0)) := ⟨by simp, fun g cs t fr a b e => (hHH g (fun q => by rw [q] at e; have hx : w4.heap[d]? = _ := hd4; rw [e] at hx; cases hx; exact a rfl)).trans e⟩
  have s1 := hB1.size
  have s2 := hg.size
  have s4 := hB4.size
  refine ⟨?_, ?_, ?_⟩
  · rw [if_neg hbad, Int.toNat_natCast, Int.toNat_natCast]
    refine ⟨rfl, ⟨⟨hBd, by simp; omega⟩, ⟨w.heap.size, wl.heap.size, _, hd7, ?_, ?_, by omega, hBw, by omega, rfl, .inl ⟨rfl, rfl⟩⟩, ⟨crashF_asc _ hAs _ _ _, hlim⟩, ⟨crashF_asc _ hAs _ _ _, hlim⟩, by simp, fun s hs => by cases hs⟩⟩
    · exact (hM.kept (hB4.block _ hlr) (KeptY.below hB4)).kept (hHH _ (by omega)) K4
    · exact hm4.kept (hHH _ (by omega)) K4
  · refine ((hB1.mono hBw).trans (Below.mk hg.os hg.tape hg.output hg.size (fun j hj => hg.block j (by omega) (fun e => by have := Option.some.inj e; omega)))).trans ((hB4.mono (by omega)).trans ⟨rfl, rfl, rfl, by simp, fun j hj => hHH j (by omega)⟩)
  · exact (((KeptY.below hB1).trans hkk).trans (KeptY.below hB4)).trans K4
set_option maxHeartbeats 8000000 in
set_option maxRecDepth 100000 in
theorem crash_walk (B d : Nat) (now sure : List Fl) (T : List Stp) (st pt : Int) (s0 : -9223372036854775808 ≤ st) (s1 : st ≤ 9223372036854775807) (p0 : -9223372036854775808 ≤ pt) (p1 : pt ≤ 9223372036854775807) (w : World) (h : DiskAt w B d now sure T)
    (hlim : (crashF sure T st.toNat pt.toNat).length ≤ 64) :
    Calls Tryd.prog 22 #[.pointer (some ⟨d, 0, none⟩), .int .i64 st, .int .i64 pt] w (CrashSaid B d now sure T st pt w) := by
  have HH := Lib.hid h
  obtain ⟨⟨hBd, hBw⟩, ⟨rn, rs, sv, hd, hmn, hms, hne, hBn, hBs, how⟩, hAn, hAs, hTl, hTs⟩ := h
  obtain ⟨As, cs, rfl⟩ : ∃ As cs, sv = .slice As T.length cs := by
    rcases how.2 with ⟨e, h0⟩ | ⟨g, cap, cur, e, _⟩
    · exact ⟨_, _, by rw [e, h0]⟩
    · exact ⟨_, _, e⟩
  have c1 : w.cell? ⟨d, 1, none⟩ = some (.map (some rs)) := by rw [hd.cell]; rfl
  have c2 : w.cell? ⟨d, 2, none⟩ = some (.slice As T.length cs) := by rw [hd.cell]; rfl
  have zd := hd.lt
  by_cases hbad : crashBad T.length st pt
  · have HR := Lib.hid (show CrashSaid B d now sure T st pt w (.returned (errI 1)) w from ⟨by rw [if_pos hbad]; exact ⟨rfl, HH.out⟩, Fr.refl _ _⟩)
    clear hd hmn hms how hAn hAs hTs
    unfold crashBad at hbad
    by_cases b1 : st < 0
    · clear hbad
      go_enter Tryd.func22, Tryd.ntmps22
      go_upto_region 1 with (fail)
      go_wp2_with (fail)
      go_ret
      exact HR.out
    · by_cases b2 : (T.length : Int) < st
      · clear hbad
        go_enter Tryd.func22, Tryd.ntmps22
        go_upto_region 1 with (fail)
        go_wp2_with (fail)
        go_ret
        exact HR.out
      · have b3 : pt < 0 := by omega
        clear hbad
        go_enter Tryd.func22, Tryd.ntmps22
        go_upto_region 1 with (fail)
        go_wp2_with (fail)
        go_ret
        exact HR.out
  · have HF := Lib.hid hbad
    unfold crashBad at hbad
    obtain ⟨k, rfl⟩ : ∃ k : Nat, st = k := ⟨st.toNat, by omega⟩
    obtain ⟨p, rfl⟩ : ∃ p : Nat, pt = p := ⟨pt.toNat, by omega⟩
    have hk : k ≤ T.length := by omega
    have b1 : ¬ (k : Int) < 0 := by omega
    have b2 : ¬ (T.length : Int) < (k : Int) := by omega
    have b3 : ¬ (p : Int) < 0 := by omega
    have hcap := row_cap how
    have hsl := sl_h As T.length cs k (by omega)
    have KW := clone_walk rs sure w hms
    rw [Int.toNat_natCast, Int.toNat_natCast] at hlim
    have HLIM := Lib.hid hlim
    have HD := Lib.hid hd
    have HOW := Lib.hid how
    have HAS := Lib.hid hAs
    have HTS := Lib.hid hTs
    clear hd hmn hms how hAn hAs hTs hbad hlim
    go_enter Tryd.func22, Tryd.ntmps22
    go_upto_region 3 with (fail)
    go_wp2_with (fail)
    refine Calls.mono KW ?_
    rintro y w1 ⟨rfl, hm1, hB1⟩
    have HB1 := Lib.hid hB1
    have hd1 := HD.out.below hB1
    have how1 := row_kept (row := none) HOW.out (w' := w1) ⟨hB1.os, hB1.tape, hB1.output, hB1.size, fun j hj _ => hB1.block j hj⟩ (fun g _ e => by cases e)
    have hT1 : ∀ s, s ∈ T → RdY w1 s.v s.bs ∧ s.name.size ≤ 32 ∧ s.dst.size ≤ 32 ∧ s.bs.length ≤ 65536 := fun s hs => ⟨(HTS.out s hs).1.kept (KeptY.below hB1), (HTS.out s hs).2⟩
    have hrow : ∀ wl, w1.grownBy wl (some w.heap.size) → wl.ownsRow B 68 5 (.slice As T.length cs) T.length (cellsT T) := fun wl hg => by
      obtain ⟨es, c, ho⟩ := hm1.obj
      refine row_kept how1 hg (fun g hg e => ?_)
      cases e
      exact own_ne how1 ho (fun _ => Obj.noConfusion) hg
    have HROW := Lib.hid hrow
    have HT1 := Lib.hid hT1
    have HD1 := Lib.hid hd1
    have hsz1 := hm1.lt
    have HCR := Lib.hid (show CrI sure T w.heap.size w1 0 w1 from ⟨by rw [List.take_zero]; exact hm1, World.grownBy.refl _ _, KeptY.refl _⟩)
    clear c1 c2 zd KW
    have c2 : w1.cell? ⟨d, 2, none⟩ = some (.slice As T.length cs) := by rw [hd1.cell]; rfl
    have zd1 := hd1.lt
    have hdw : d < w.heap.size := HD.out.lt
    clear hm1 hB1 hd1 how1 hT1 hrow
    have FIN := fun (wl w4 : World) (hM : MapF wl w.heap.size (crashF sure T k p)) (hg : w1.grownBy wl (some w.heap.size)) (hkk : KeptY w1 wl) (hm4 : MapF w4 wl.heap.size (crashF sure T k p)) (hB4 : Below wl.heap.size wl w4) => Lib.hid (crash_end B d rn rs T As cs k p sure now w w1 wl w4 hBd hBw HD.out HB1.out hM hg hkk hm4 hB4 HAS.out.1 HLIM.out HF.out)
    generalize hr : w.heap.size = r at *
    go_upto_region 4 with (fail)
    go_wp2_with (fail)
    go_loopw [43] (fun iv wl => ∃ i : Nat, iv = .int .i64 i ∧ i ≤ k ∧ CrI sure T r w1 i wl) (fun iv _ => k - (intOf iv).toNat)
    case atStart => exact ⟨0, rfl, Nat.zero_le _, HCR.out⟩
    case round =>
      obtain ⟨wl, rfl⟩ : ∃ Z, Z = wr := ⟨_, rfl⟩
      obtain ⟨i, rfl, hi, hcr⟩ := hrel
      clear HCR c2
      have HCR := Lib.hid hcr
      clear hcr
      have i0 : (0 : Int) ≤ i := by omega
      by_cases hik : i < k
      · have hik' : (i : Int) < (k : Int) := by omega
        obtain ⟨s, hs⟩ : ∃ s, T[i]? = some s := ⟨_, List.getElem?_eq_getElem (by omega)⟩
        obtain ⟨g, rfl, _, hcs⟩ := row_step (HROW.out wl HCR.out.2.1) hs
        have hT := HT1.out s (List.mem_of_getElem? hs)
        obtain ⟨name, dst, v, bs, wr_, rm⟩ := s
        obtain ⟨hv, hn, ht, hb⟩ := hT
        dsimp only at hv hn ht hb
        have hv1 := hv.kept HCR.out.2.2
        obtain ⟨A, cap, rfl⟩ := hv1.form
        have x0 : wl.cell? ⟨g, i * 5, none⟩ = some (.string name) := hcs 0 (by omega)
        have x1 : wl.cell? ⟨g, i * 5 + 1, none⟩ = some (.string dst) := hcs 1 (by omega)
        have x2 : wl.cell? ⟨g, i * 5 + 2, none⟩ = some (.slice A bs.length cap) := hcs 2 (by omega)
        have x3 : wl.cell? ⟨g, i * 5 + 3, none⟩ = some (.bool wr_) := hcs 3 (by omega)
        have x4 : wl.cell? ⟨g, i * 5 + 4, none⟩ = some (.bool rm) := hcs 4 (by omega)
        have zg := World.block_lt_of_cell? _ _ x0
        have HS := Lib.hid hs
        have HV1 := Lib.hid hv1
        have HN := Lib.hid (And.intro hn ht)
        clear hs hv hv1 hn ht hcs
        go_wp2_with (fail)
        have hal := (Below.refl wl.heap.size wl).alloc (Nat.le_refl _) (.cells #[.string name, .string dst, .slice A bs.length cap, .bool wr_, .bool rm] 68)
        have hlt := HCR.out.1.lt
        have hm2 := HCR.out.1.kept (hal.block r hlt) (KeptY.below hal)
        have htk : (T.take i).length ≤ 4096 := by rw [List.length_take]; omega
        have DW := do_walk r _ ⟨name, dst, .slice A bs.length cap, bs, wr_, rm⟩ (wl.alloc (.cells #[.string name, .string dst, .slice A bs.length cap, .bool wr_, .bool rm] 68)) hm2 (runF_asc _ HAS.out.1 _) (by have := runF_len sure (T.take i); have := HAS.out.2; omega) (show name.size ≤ maxLen by have := HN.out.1; unfold maxLen; omega) (show dst.size ≤ maxLen by have := HN.out.2; unfold maxLen; omega) (HV1.out.kept (KeptY.below hal))
        refine Calls.mono DW ?_
        rintro y w3 ⟨rfl, hm3, hg3, hk3⟩
        have HNX := Lib.hid (show CrI sure T r w1 (i + 1) w3 from ⟨by rw [runF_take _ _ _ _ HS.out]; exact hm3, (HCR.out.2.1.trans (World.grownBy_alloc wl _ _)).trans hg3, (HCR.out.2.2.trans (KeptY.below hal)).trans hk3⟩)
        clear hal hm2 DW hm3 hg3 hk3 x0 x1 x2 x3 x4 htk
        go_wp2_with (fail)
        go_roundw
        case rel => exact ⟨i + 1, by go_num, by omega, HNX.out⟩
        case measure => simp [intOf]; omega
      · have hie : ¬ (i : Int) < (k : Int) := by omega
        obtain rfl : i = k := by omega
        have hdl : wl.heap[d]? = w1.heap[d]? := HCR.out.2.1.block d zd1 (fun e => by have := Option.some.inj e; omega)
        have HDL := Lib.hid (show Blk wl d 62 #[.map (some rn), .map (some rs), .slice As T.length cs] from hdl.trans HD1.out)
        have c2 : wl.cell? ⟨d, 2, none⟩ = some (.slice As T.length cs) := by rw [HDL.out.cell]; rfl
        have zd := HDL.out.lt
        have hrl := HCR.out.1.lt
        by_cases hkT : i < T.length
        · have hkT' : (i : Int) < (T.length : Int) := by omega
          obtain ⟨s, hs⟩ : ∃ s, T[i]? = some s := ⟨_, List.getElem?_eq_getElem hkT⟩
          obtain ⟨g, rfl, _, hcs⟩ := row_step (HROW.out wl HCR.out.2.1) hs
          have hT := HT1.out s (List.mem_of_getElem? hs)
          obtain ⟨name, dst, v, bs, wr_, rm⟩ := s
          obtain ⟨hv, hn, ht, hb⟩ := hT
          dsimp only at hv hn ht hb
          have hv1 := hv.kept HCR.out.2.2
          obtain ⟨A, cap, rfl⟩ := hv1.form
          have x0 : wl.cell? ⟨g, i * 5, none⟩ = some (.string name) := hcs 0 (by omega)
          have x1 : wl.cell? ⟨g, i * 5 + 1, none⟩ = some (.string dst) := hcs 1 (by omega)
          have x2 : wl.cell? ⟨g, i * 5 + 2, none⟩ = some (.slice A bs.length cap) := hcs 2 (by omega)
          have x3 : wl.cell? ⟨g, i * 5 + 3, none⟩ = some (.bool wr_) := hcs 3 (by omega)
          have x4 : wl.cell? ⟨g, i * 5 + 4, none⟩ = some (.bool rm) := hcs 4 (by omega)
          have zg := World.block_lt_of_cell? _ _ x0
          by_cases hp0 : p = 0
          · subst hp0
            have CF := Lib.hid (show crashF sure T i 0 = runF sure (T.take i) by unfold crashF; rw [hs]; simp)
            clear hs hv hv1 hn ht hcs
            go_upto_region 13 with (fail)
            have CL := clone_walk r _ wl HCR.out.1
            go_wp2_with (fail)
            refine Calls.mono CL ?_
            rintro y w4 ⟨rfl, hm4, hB4⟩
            have HR := FIN wl w4 (by rw [CF.out]; exact HCR.out.1) HCR.out.2.1 HCR.out.2.2 (by rw [CF.out]; exact hm4) hB4
            have hd4 := HDL.out.below hB4
            have e0 := hd4.cell 0
            have e1 := hd4.cell 1
            have e2 := hd4.cell 2
            have f0 := hd4.frozen 0
            have f1 := hd4.frozen 1
            have f2 := hd4.frozen 2
            have zd4 := hd4.lt
            clear CL hm4 hB4 hd4 c2 zd FIN
            go_wp2_with (fail)
            go_ret
            exact HR.out
          · have hp0' : (0 : Int) < (p : Int) := by omega
            cases wr_ with
            | false =>
              have CF := Lib.hid (show crashF sure T i p = runF sure (T.take i) by unfold crashF; rw [hs]; simp)
              clear hs hv hv1 hn ht hcs
              go_upto_region 13 with (fail)
              have CL := clone_walk r _ wl HCR.out.1
              go_wp2_with (fail)
              refine Calls.mono CL ?_
              rintro y w4 ⟨rfl, hm4, hB4⟩
              have HR := FIN wl w4 (by rw [CF.out]; exact HCR.out.1) HCR.out.2.1 HCR.out.2.2 (by rw [CF.out]; exact hm4) hB4
              have hd4 := HDL.out.below hB4
              have e0 := hd4.cell 0
              have e1 := hd4.cell 1
              have e2 := hd4.cell 2
              have f0 := hd4.frozen 0
              have f1 := hd4.frozen 1
              have f2 := hd4.frozen 2
              have zd4 := hd4.lt
              clear CL hm4 hB4 hd4 c2 zd FIN
              go_wp2_with (fail)
              go_ret
              exact HR.out
            | true =>
              have CF := Lib.hid (show crashF sure T i p = doF (runF sure (T.take i)) (cutS ⟨name, dst, .slice A bs.length cap, bs, true, rm⟩ p) by unfold crashF; rw [hs]; exact if_pos ⟨by omega, rfl⟩)
              have HV1 := Lib.hid hv1
              have HN := Lib.hid (And.intro hn ht)
              clear hs hv hv1 hn ht hcs
              have hql := HDL.out.alloc (.cells #[.string name, .string dst, .slice A bs.length cap, .bool true, .bool rm] 68)
              have hqb := Blk.new wl 68 #[.string name, .string dst, .slice A bs.length cap, .bool true, .bool rm]
              have hal := (Below.refl wl.heap.size wl).alloc (Nat.le_refl _) (.cells #[.string name, .string dst, .slice A bs.length cap, .bool true, .bool rm] 68)
              go_upto_region 11 with (fail)
              generalize hwb : wl.alloc (.cells #[.string name, .string dst, .slice A bs.length cap, .bool true, .bool rm] 68) = wb at *
              clear hwb x0 x1 x2 x3 x4 c2
              have y0 : wb.cell? ⟨wl.heap.size, 0, none⟩ = some (.string name) := by rw [hqb.cell]; rfl
              have y1 : wb.cell? ⟨wl.heap.size, 1, none⟩ = some (.string dst) := by rw [hqb.cell]; rfl
              have y2 : wb.cell? ⟨wl.heap.size, 2, none⟩ = some (.slice A bs.length cap) := by rw [hqb.cell]; rfl
              have y3 : wb.cell? ⟨wl.heap.size, 3, none⟩ = some (.bool true) := by rw [hqb.cell]; rfl
              have y4 : wb.cell? ⟨wl.heap.size, 4, none⟩ = some (.bool rm) := by rw [hqb.cell]; rfl
              have zq := hqb.lt
              have fq := hqb.frozen 2
              have hqb2 := hqb.put 2 (.slice A (min p bs.length) (min p bs.length)) rfl
              generalize hq : wl.heap.size = q at *
              have hbc : bs.length ≤ cap := by
                rcases HV1.out with ⟨A', c, e, rfl, hA⟩ | ⟨g', o', c, cs, fr, e, h1, h2, h3, h4⟩
                · simp
                · cases e; exact h1
              have hsm := sl_m A bs.length cap (min p bs.length) (by omega)
              have HQB := Lib.hid hqb
              have HQB2 := Lib.hid hqb2
              have HAL := Lib.hid hal
              have HQL := Lib.hid hql
              clear hqb hqb2 hal hql
              go_upto_region 12 with (fail)
              rw [show (min (p : Int) (bs.length : Int)).toNat = min p bs.length from by omega]
              have hlr : r < q := hrl
              have hdq : d < q := by have := HDL.out.lt; omega
              have hSC : ∀ j, j ≠ q → (wb.setCell ⟨q, 2, none⟩ (.slice A (min p bs.length) (min p bs.length))).heap[j]? = wb.heap[j]? := fun j hj => Below.heap_setCell _ _ _ _ hj
              have KSC : KeptY wb (wb.setCell ⟨q, 2, none⟩ (.slice A (min p bs.length) (min p bs.length))) := ⟨by simp, fun g cs t fr a b e => (hSC g (fun z => by rw [z] at e; have hx : wb.heap[q]? = _ := HQB.out; rw [e] at hx; cases hx; exact b rfl)).trans e⟩
              have hal2 : Below q wl (wb.setCell ⟨q, 2, none⟩ (.slice A (min p bs.length) (min p bs.length))) := HAL.out.trans ⟨rfl, rfl, rfl, by simp, fun j hj => hSC j (by omega)⟩
              have k2 : KeptY wl (wb.setCell ⟨q, 2, none⟩ (.slice A (min p bs.length) (min p bs.length))) := KeptY.below (by rw [hq]; exact hal2)
              generalize hwc : wb.setCell ⟨q, 2, none⟩ (.slice A (min p bs.length) (min p bs.length)) = wc at *
              clear hwc y0 y1 y2 y3 y4 hSC KSC fq
              have y0 : wc.cell? ⟨q, 0, none⟩ = some (.string name) := by rw [HQB2.out.cell]; rfl
              have y1 : wc.cell? ⟨q, 1, none⟩ = some (.string dst) := by rw [HQB2.out.cell]; rfl
              have y2 : wc.cell? ⟨q, 2, none⟩ = some (.slice A (min p bs.length) (min p bs.length)) := by rw [HQB2.out.cell]; rfl
              have y3 : wc.cell? ⟨q, 3, none⟩ = some (.bool true) := by rw [HQB2.out.cell]; rfl
              have y4 : wc.cell? ⟨q, 4, none⟩ = some (.bool rm) := by rw [HQB2.out.cell]; rfl
              have zqc := HQB2.out.lt
              have hm2 := HCR.out.1.kept (hal2.block r hlr) k2
              have hv2 := (HV1.out.kept k2).take p
              have htk : (T.take i).length ≤ 4096 := by rw [List.length_take]; omega
              have DW := do_walk r _ ⟨name, dst, .slice A (min p bs.length) (min p bs.length), bs.take p, true, rm⟩ wc hm2 (runF_asc _ HAS.out.1 _) (by have := runF_len sure (T.take i); have := HAS.out.2; omega) (show name.size ≤ maxLen by have := HN.out.1; unfold maxLen; omega) (show dst.size ≤ maxLen by have := HN.out.2; unfold maxLen; omega) hv2
              have hgc : w1.grownBy wc (some r) := HCR.out.2.1.trans ⟨hal2.os, hal2.tape, hal2.output, k2.1, fun j hj _ => hal2.block j (by omega)⟩
              have hkc := HCR.out.2.2.trans k2
              have HGC := Lib.hid hgc
              have HKC := Lib.hid hkc
              clear hal2 k2 hm2 hv2 hgc hkc
              go_wp2_with (fail)
              refine Calls.mono DW ?_
              rintro y w3 ⟨rfl, hm3, hg3, hk3⟩
              have hg13 := HGC.out.trans hg3
              have hk13 := HKC.out.trans hk3
              have HM3 := Lib.hid (show MapF w3 r (crashF sure T i p) by rw [CF.out]; exact hm3)
              have HG13 := Lib.hid hg13
              have HK13 := Lib.hid hk13
              clear DW hm3 hg3 hk3 hg13 hk13 y0 y1 y2 y3 y4
              go_upto_region 13 with (fail)
              have CL := clone_walk r _ w3 HM3.out
              go_wp2_with (fail)
              refine Calls.mono CL ?_
              rintro y w4 ⟨rfl, hm4, hB4⟩
              have HR := FIN w3 w4 HM3.out HG13.out HK13.out hm4 hB4
              have hd4 : Blk w4 d 62 #[.map (some rn), .map (some rs), .slice (some ⟨g, 0, none⟩) T.length cs] := (HG13.out.block d zd1 (fun e => by have := Option.some.inj e; omega)).trans HD1.out |> fun h => Blk.below h hB4
              have e0 := hd4.cell 0
              have e1 := hd4.cell 1
              have e2 := hd4.cell 2
              have f0 := hd4.frozen 0
              have f1 := hd4.frozen 1
              have f2 := hd4.frozen 2
              have zd4 := hd4.lt
              clear CL hm4 hB4 hd4 FIN
              go_wp2_with (fail)
              go_ret
              exact HR.out
        · have hkT' : ¬ (i : Int) < (T.length : Int) := by omega
          have CF := Lib.hid (show crashF sure T i p = runF sure (T.take i) by unfold crashF; rw [List.getElem?_eq_none (by omega)])
          go_upto_region 13 with (fail)
          have CL := clone_walk r _ wl HCR.out.1
          go_wp2_with (fail)
          refine Calls.mono CL ?_
          rintro y w4 ⟨rfl, hm4, hB4⟩
          have HR := FIN wl w4 (by rw [CF.out]; exact HCR.out.1) HCR.out.2.1 HCR.out.2.2 (by rw [CF.out]; exact hm4) hB4
          have hd4 := HDL.out.below hB4
          have e0 := hd4.cell 0
          have e1 := hd4.cell 1
          have e2 := hd4.cell 2
          have f0 := hd4.frozen 0
          have f1 := hd4.frozen 1
          have f2 := hd4.frozen 2
          have zd4 := hd4.lt
          clear CL hm4 hB4 hd4 c2 zd FIN
          go_wp2_with (fail)
          go_ret
          exact HR.out
end Go.Proofs.YtgocmfjijoibkaaDoor
