/- The document's Crash. -/
import Derived.Test.YtgocmfjijoibkaaDoorR7
namespace Go.Proofs.YtgocmfjijoibkaaDoor
open Go.RowKit
set_option linter.unusedSimpArgs false
set_option linter.unusedVariables false
set_option linter.unusedVariables false
def CrashX (x : FS) (st pt : Int) : FS := ⟨crashF x.sure x.T st.toNat pt.toNat, crashF x.sure x.T st.toNat pt.toNat, []⟩
def crashN (x : FS) (st pt : Int) : Int := if st < 0 ∨ (x.T.length : Int) < st ∨ pt < 0 then 1 else 0
def CrashR (x : FS) (st pt : Int) : FS := if crashN x st pt = 0 then CrashX x st pt else x
def CrJ (x : FS) (w2 wl : World) (v : Value) (i : Nat) : Prop := RdF wl v (runF x.sure (x.T.take i)) ∧ Below w2.heap.size w2 wl
theorem crJ_form {x : FS} {w2 wl : World} {v : Value} {i : Nat} (h : CrJ x w2 wl v i) : ∃ A l c, v = .slice A l c := by obtain ⟨A, c, e⟩ := h.1.form; exact ⟨_, _, _, e⟩
theorem step_form (s : Stp) : ∃ (n t b : List UInt8) (sv : Value), s = ⟨⟨n.toArray⟩, ⟨t.toArray⟩, sv, b, s.wr, s.rm⟩ := ⟨s.name.data.toList, s.dst.data.toList, s.bs, s.v, rfl⟩
theorem cut_to (b : List UInt8) (q : Nat) (W : World) : (Instr.slice 9 (.string ⟨b.toArray⟩) none (some (.int .i64 (min (q : Int) (b.length : Int)))) none).run Tryd.prog W = .ok (.string ⟨(b.take q).toArray⟩) W := by
  have hs : (⟨b.toArray⟩ : ByteArray).size = b.length := rfl
  rw [run_slice_string_to_if W 9 ⟨b.toArray⟩ .i64 _ Tryd.underlying9, if_pos ⟨by omega, by rw [hs]; omega⟩]
  have e : (⟨b.toArray⟩ : ByteArray).extract 0 ((min (q : Int) (b.length : Int)).toNat) = ⟨(b.take q).toArray⟩ := by
    rw [show (min (q : Int) (b.length : Int)).toNat = min q b.length from by omega]
    apply ByteArray.ext
    rw [ByteArray.data_extract]
    apply Array.ext'
    rw [Array.toList_extract]
    simp [List.extract_eq_take_drop]
  rw [e]
set_option maxHeartbeats 16000000 in
set_option maxRecDepth 100000 in
theorem doccrash_walk (v : Value) (x : FS) (st pt : Int) (w : World) (h : Doc w v x) (ho : Okay x) (hT : x.T.length ≤ 4096) (s0 : -9223372036854775808 ≤ st) (s1 : st ≤ 9223372036854775807) (p0 : -9223372036854775808 ≤ pt) (p1 : pt ≤ 9223372036854775807) :
    Calls Tryd.prog 34 #[v, .int .i64 st, .int .i64 pt] w (TryD x (crashN x st pt) (CrashR x st pt) w) := by
  obtain ⟨v1, v2, v3, rfl, h1, h2, h3⟩ := h
  obtain ⟨A1, k1, rfl⟩ := h1.form
  obtain ⟨A2, k2, rfl⟩ := h2.form
  obtain ⟨A3, k3, rfl⟩ := h3.form
  have b1 := (Below.refl w.heap.size w).alloc (Nat.le_refl _) (.cells #[.slice A1 x.now.length k1, .slice A2 x.sure.length k2, .slice A3 x.T.length k3] 41)
  have b3 := b1.alloc b1.size (.cells #[.slice none 0 0, .slice none 0 0, .slice none 0 0] 41)
  have z1 := (w.size_alloc (.cells #[.slice A1 x.now.length k1, .slice A2 x.sure.length k2, .slice A3 x.T.length k3] 41))
  have kD := (Blk.new w 41 #[.slice A1 x.now.length k1, .slice A2 x.sure.length k2, .slice A3 x.T.length k3]).alloc (.cells #[.slice none 0 0, .slice none 0 0, .slice none 0 0] 41)
  have kZ := Blk.new (w.alloc (.cells #[.slice A1 x.now.length k1, .slice A2 x.sure.length k2, .slice A3 x.T.length k3] 41)) 41 #[.slice none 0 0, .slice none 0 0, .slice none 0 0]
  rw [z1] at kZ
  have HBZ := Lib.hid b3
  have HKD := Lib.hid kD
  have HKZ := Lib.hid kZ
  have k0 := KeptY.below b3
  have H1 := Lib.hid (h1.kept k0)
  have H2 := Lib.hid (h2.kept k0)
  have H3 := Lib.hid (h3.kept k0)
  have HO := Lib.hid ho
  clear h1 h2 h3 b1 b3 z1 kD kZ k0 ho
  go_enter Tryd.func34, Tryd.ntmps34
  go_upto_region 1 with (fail)
  generalize (w.alloc (.cells #[.slice A1 x.now.length k1, .slice A2 x.sure.length k2, .slice A3 x.T.length k3] 41)).alloc (.cells #[.slice none 0 0, .slice none 0 0, .slice none 0 0] 41) = w1 at *
  generalize hp : w.heap.size = p at *
  have HP := Lib.hid hp
  clear hp
  have HBW := Lib.hid (Below.refl w1.heap.size w1)
  have kD := HKD.out.below HBW.out
  have kZ := HKZ.out.below HBW.out
  have d0 : w1.cell? ⟨p, 0, none⟩ = some (.slice A1 x.now.length k1) := by rw [kD.cell]; rfl
  have d1 : w1.cell? ⟨p, 1, none⟩ = some (.slice A2 x.sure.length k2) := by rw [kD.cell]; rfl
  have d2 : w1.cell? ⟨p, 2, none⟩ = some (.slice A3 x.T.length k3) := by rw [kD.cell]; rfl
  have y0 : w1.cell? ⟨p + 1, 0, none⟩ = some (.slice none 0 0) := by rw [kZ.cell]; rfl
  have f0 := kZ.frozen 0
  have y1 : w1.cell? ⟨p + 1, 1, none⟩ = some (.slice none 0 0) := by rw [kZ.cell]; rfl
  have f1 := kZ.frozen 1
  have y2 : w1.cell? ⟨p + 1, 2, none⟩ = some (.slice none 0 0) := by rw [kZ.cell]; rfl
  have f2 := kZ.frozen 2
  have zD := kD.lt
  have zZ := kZ.lt
  clear kD kZ
  by_cases hbad : st < 0 ∨ (x.T.length : Int) < st ∨ pt < 0
  · have HC := Lib.hid (show crashN x st pt = 1 from if_pos hbad)
    have HXX := Lib.hid (show CrashR x st pt = x from if_neg (by rw [HC.out]; decide))
    by_cases hs0 : st < 0
    · clear hbad
      go_wp2_with (fail)
      have kZ0 := HKZ.out.below HBW.out
      have kZ1 := kZ0.put 0 (.slice A1 x.now.length k1) rfl
      have kZ2 := kZ1.put 1 (.slice A2 x.sure.length k2) rfl
      have kZ3 := kZ2.put 2 (.slice A3 x.T.length k3) rfl
      have KK := (KeptD.set kZ0 0 (.slice A1 x.now.length k1)).trans ((KeptD.set kZ1 1 (.slice A2 x.sure.length k2)).trans (KeptD.set kZ2 2 (.slice A3 x.T.length k3)))
      rw [HC.out, HXX.out]
      refine bodyPost_end (results_ct_row rfl _ _ (p + 1) _ _ _ _ rfl kZ3) rfl ⟨_, rfl, ⟨_, _, _, rfl, H1.out.keptD KK, H2.out.keptD KK, H3.out.keptD KK⟩, ?_⟩
      exact below_set3 (show Below w.heap.size w w1 by rw [HP.out]; exact HBZ.out.trans (HBW.out.mono (by have := HKD.out.lt; omega))) (by rw [HP.out]; omega)
    · by_cases hs1 : (x.T.length : Int) < st
      · clear hbad
        go_wp2_with (fail)
        have kZ0 := HKZ.out.below HBW.out
        have kZ1 := kZ0.put 0 (.slice A1 x.now.length k1) rfl
        have kZ2 := kZ1.put 1 (.slice A2 x.sure.length k2) rfl
        have kZ3 := kZ2.put 2 (.slice A3 x.T.length k3) rfl
        have KK := (KeptD.set kZ0 0 (.slice A1 x.now.length k1)).trans ((KeptD.set kZ1 1 (.slice A2 x.sure.length k2)).trans (KeptD.set kZ2 2 (.slice A3 x.T.length k3)))
        rw [HC.out, HXX.out]
        refine bodyPost_end (results_ct_row rfl _ _ (p + 1) _ _ _ _ rfl kZ3) rfl ⟨_, rfl, ⟨_, _, _, rfl, H1.out.keptD KK, H2.out.keptD KK, H3.out.keptD KK⟩, ?_⟩
        exact below_set3 (show Below w.heap.size w w1 by rw [HP.out]; exact HBZ.out.trans (HBW.out.mono (by have := HKD.out.lt; omega))) (by rw [HP.out]; omega)
      · have hp0 : pt < 0 := by omega
        clear hbad
        go_wp2_with (fail)
        have kZ0 := HKZ.out.below HBW.out
        have kZ1 := kZ0.put 0 (.slice A1 x.now.length k1) rfl
        have kZ2 := kZ1.put 1 (.slice A2 x.sure.length k2) rfl
        have kZ3 := kZ2.put 2 (.slice A3 x.T.length k3) rfl
        have KK := (KeptD.set kZ0 0 (.slice A1 x.now.length k1)).trans ((KeptD.set kZ1 1 (.slice A2 x.sure.length k2)).trans (KeptD.set kZ2 2 (.slice A3 x.T.length k3)))
        rw [HC.out, HXX.out]
        refine bodyPost_end (results_ct_row rfl _ _ (p + 1) _ _ _ _ rfl kZ3) rfl ⟨_, rfl, ⟨_, _, _, rfl, H1.out.keptD KK, H2.out.keptD KK, H3.out.keptD KK⟩, ?_⟩
        exact below_set3 (show Below w.heap.size w w1 by rw [HP.out]; exact HBZ.out.trans (HBW.out.mono (by have := HKD.out.lt; omega))) (by rw [HP.out]; omega)
  · have HC := Lib.hid (show crashN x st pt = 0 from if_neg hbad)
    have HXX := Lib.hid (show CrashR x st pt = CrashX x st pt from if_pos HC.out)
    obtain ⟨k, rfl⟩ : ∃ k : Nat, st = (k : Int) := ⟨st.toNat, by omega⟩
    obtain ⟨q, rfl⟩ : ∃ q : Nat, pt = (q : Int) := ⟨pt.toNat, by omega⟩
    have hkT : k ≤ x.T.length := by omega
    have hkT' : ¬ (x.T.length : Int) < (k : Int) := by omega
    have k00 : (0 : Int) ≤ k := by omega
    have q00 : (0 : Int) ≤ q := by omega
    have HXC := Lib.hid (show CrashX x (k : Int) (q : Int) = ⟨crashF x.sure x.T k q, crashF x.sure x.T k q, []⟩ from rfl)
    clear hbad
    have H0 := Lib.hid (show CrJ x w1 w1 (.slice A2 x.sure.length k2) 0 from ⟨by rw [List.take_zero]; exact H2.out, Below.refl _ _⟩)
    go_upto_region 4 with (fail)
    go_wp2_with (fail)
    clear d0 d1 d2 y0 y1 y2 f0 f1 f2 zD zZ
    go_loopw [8, 9] (fun lv iv wl => ∃ i : Nat, iv = .int .i64 i ∧ i ≤ k ∧ CrJ x w1 wl lv i) (fun _ iv _ => k - (intOf iv).toNat)
    case atStart => exact ⟨0, rfl, Nat.zero_le _, H0.out⟩
    case round =>
      obtain ⟨wl, rfl⟩ : ∃ Z, Z = wr := ⟨_, rfl⟩
      obtain ⟨i, rfl, hi, hJ⟩ := hrel
      have i0 : (0 : Int) ≤ i := by omega
      obtain ⟨A8, l8, k8, rfl⟩ := crJ_form hJ
      have HJ := Lib.hid hJ
      have HBW := Lib.hid hJ.2
      clear hJ H0
      have kD := HKD.out.below HBW.out
      have kZ := HKZ.out.below HBW.out
      have d0 : wl.cell? ⟨p, 0, none⟩ = some (.slice A1 x.now.length k1) := by rw [kD.cell]; rfl
      have d1 : wl.cell? ⟨p, 1, none⟩ = some (.slice A2 x.sure.length k2) := by rw [kD.cell]; rfl
      have d2 : wl.cell? ⟨p, 2, none⟩ = some (.slice A3 x.T.length k3) := by rw [kD.cell]; rfl
      have y0 : wl.cell? ⟨p + 1, 0, none⟩ = some (.slice none 0 0) := by rw [kZ.cell]; rfl
      have f0 := kZ.frozen 0
      have y1 : wl.cell? ⟨p + 1, 1, none⟩ = some (.slice none 0 0) := by rw [kZ.cell]; rfl
      have f1 := kZ.frozen 1
      have y2 : wl.cell? ⟨p + 1, 2, none⟩ = some (.slice none 0 0) := by rw [kZ.cell]; rfl
      have f2 := kZ.frozen 2
      have zD := kD.lt
      have zZ := kZ.lt
      clear kD kZ
      by_cases hik : i < k
      · have hik' : (i : Int) < (k : Int) := by omega
        obtain ⟨s, hs⟩ : ∃ s, x.T[i]? = some s := ⟨_, List.getElem?_eq_getElem (by omega)⟩
        obtain ⟨g, rfl, hc, zg⟩ := (H3.out.kept (KeptY.below HBW.out)).at_ hs
        obtain ⟨n, t, b, sv, hse⟩ := step_form s
        obtain ⟨wr, hwr⟩ : ∃ z, z = s.wr := ⟨_, rfl⟩
        obtain ⟨rm, hrm⟩ : ∃ z, z = s.rm := ⟨_, rfl⟩
        rw [← hwr, ← hrm] at hse
        have e0 : wl.cell? ⟨g, i * 4, none⟩ = some (.int .i64 (kindS s)) := hc 0 (by omega)
        have e1 : wl.cell? ⟨g, i * 4 + 1, none⟩ = some (.string s.name) := hc 1 (by omega)
        have e2 : wl.cell? ⟨g, i * 4 + 2, none⟩ = some (.string s.dst) := hc 2 (by omega)
        have e3 : wl.cell? ⟨g, i * 4 + 3, none⟩ = some (.string ⟨s.bs.toArray⟩) := hc 3 (by omega)
        have hmv : wr = false → rm = false → (lookF (runF x.sure (x.T.take i)) n).isSome = true := fun a _ => by
          have := HO.out.mv i s hs (by rw [← hwr]; exact a)
          rw [hse] at this; exact this
        have DW := docdo_walk (.slice A8 l8 k8) (runF x.sure (x.T.take i)) n t b sv wr rm wl HJ.out.1 (HO.out.pre i) hmv
        rw [← hse] at DW
        rw [show (⟨n.toArray⟩ : ByteArray) = s.name from by rw [hse], show (⟨t.toArray⟩ : ByteArray) = s.dst from by rw [hse], show b = s.bs from by rw [hse]] at DW
        have HRT := Lib.hid (show runF x.sure (x.T.take (i + 1)) = doF (runF x.sure (x.T.take i)) s from runF_take _ _ _ _ hs)
        clear hc hmv hse hwr hrm hs
        generalize kindS s = ks at *
        go_wp2_with (fail)
        refine Calls.mono DW ?_
        rintro y w3 ⟨v3, rfl, hr3, hb3⟩
        have HNX := Lib.hid (show CrJ x w1 w3 v3 (i + 1) from ⟨by rw [HRT.out]; exact RdF.of_owns hr3, below_trans HBW.out hb3⟩)
        clear DW hr3 hb3 e0 e1 e2 e3
        clear d0 d1 d2 y0 y1 y2 f0 f1 f2 zD zZ
        go_wp2_with (fail)
        go_roundw
        case rel => exact ⟨i + 1, by go_num, by omega, HNX.out⟩
        case measure => simp [intOf]; omega
      · have hik' : ¬ (i : Int) < (k : Int) := by omega
        obtain rfl : i = k := by omega
        by_cases hiT : i < x.T.length
        · have hiT' : (i : Int) < (x.T.length : Int) := by omega
          obtain ⟨s, hs⟩ : ∃ s, x.T[i]? = some s := ⟨_, List.getElem?_eq_getElem hiT⟩
          by_cases hq0 : q = 0
          · have hq0' : ¬ (0 : Int) < (q : Int) := by omega
            have CF := Lib.hid (show crashF x.sure x.T i q = runF x.sure (x.T.take i) by unfold crashF; rw [hs, hq0]; simp)
            clear hs hq0
            go_wp2_with (fail)
            have HRD := Lib.hid HJ.out.1
            have kZ0 := HKZ.out.below HBW.out
            have kZ1 := kZ0.put 0 (.slice A8 l8 k8) rfl
            have kZ2 := kZ1.put 1 (.slice A8 l8 k8) rfl
            have kZ3 := kZ2.put 2 (.slice none 0 0) rfl
            have KK := (KeptD.set kZ0 0 (.slice A8 l8 k8)).trans ((KeptD.set kZ1 1 (.slice A8 l8 k8)).trans (KeptD.set kZ2 2 (.slice none 0 0)))
            rw [HC.out, HXX.out]
            refine bodyPost_end (results_ct_row rfl _ _ (p + 1) _ _ _ _ rfl kZ3) rfl ⟨_, rfl, ⟨_, _, _, rfl, by rw [HXC.out, CF.out]; exact HRD.out.keptD KK, by rw [HXC.out, CF.out]; exact HRD.out.keptD KK, RdD.nil _⟩, ?_⟩
            exact below_set3 (show Below w.heap.size w wl by rw [HP.out]; exact HBZ.out.trans (HBW.out.mono (by have := HKD.out.lt; omega))) (by rw [HP.out]; omega)
          · have hq0' : (0 : Int) < (q : Int) := by omega
            obtain ⟨g, rfl, hc, zg⟩ := (H3.out.kept (KeptY.below HBW.out)).at_ hs
            have e0 : wl.cell? ⟨g, i * 4, none⟩ = some (.int .i64 (kindS s)) := hc 0 (by omega)
            have e1 : wl.cell? ⟨g, i * 4 + 1, none⟩ = some (.string s.name) := hc 1 (by omega)
            have e2 : wl.cell? ⟨g, i * 4 + 2, none⟩ = some (.string s.dst) := hc 2 (by omega)
            have e3 : wl.cell? ⟨g, i * 4 + 3, none⟩ = some (.string ⟨s.bs.toArray⟩) := hc 3 (by omega)
            obtain ⟨n, t, b, sv, hse⟩ := step_form s
            cases hw : s.wr with
            | false =>
              have CF := Lib.hid (show crashF x.sure x.T i q = runF x.sure (x.T.take i) by unfold crashF; rw [hs]; simp [hw])
              have hks : ¬ kindS s = 0 := by unfold kindS; rw [hw]; simp; split <;> simp
              generalize kindS s = ks at *
              clear hs hc hse hw
              go_wp2_with (fail)
              have HRD := Lib.hid HJ.out.1
              have kZ0 := HKZ.out.below HBW.out
              have kZ1 := kZ0.put 0 (.slice A8 l8 k8) rfl
              have kZ2 := kZ1.put 1 (.slice A8 l8 k8) rfl
              have kZ3 := kZ2.put 2 (.slice none 0 0) rfl
              have KK := (KeptD.set kZ0 0 (.slice A8 l8 k8)).trans ((KeptD.set kZ1 1 (.slice A8 l8 k8)).trans (KeptD.set kZ2 2 (.slice none 0 0)))
              rw [HC.out, HXX.out]
              refine bodyPost_end (results_ct_row rfl _ _ (p + 1) _ _ _ _ rfl kZ3) rfl ⟨_, rfl, ⟨_, _, _, rfl, by rw [HXC.out, CF.out]; exact HRD.out.keptD KK, by rw [HXC.out, CF.out]; exact HRD.out.keptD KK, RdD.nil _⟩, ?_⟩
              exact below_set3 (show Below w.heap.size w wl by rw [HP.out]; exact HBZ.out.trans (HBW.out.mono (by have := HKD.out.lt; omega))) (by rw [HP.out]; omega)
            | true =>
              rw [hw] at hse
              obtain ⟨rm, hrm⟩ : ∃ z, z = s.rm := ⟨_, rfl⟩
              rw [← hrm] at hse
              clear hrm hw hc
              subst hse
              have CF := Lib.hid (show crashF x.sure x.T i q = doF (runF x.sure (x.T.take i)) ⟨⟨n.toArray⟩, ⟨t.toArray⟩, sv, b.take q, true, rm⟩ by unfold crashF; rw [hs]; exact if_pos ⟨by omega, rfl⟩)
              have hks : kindS ⟨⟨n.toArray⟩, ⟨t.toArray⟩, sv, b, true, rm⟩ = 0 := rfl
              rw [hks] at e0
              clear hs hks
              dsimp only at e1 e2 e3
              have hqb := Blk.new wl 79 #[.int .i64 0, .string ⟨n.toArray⟩, .string ⟨t.toArray⟩, .string ⟨b.toArray⟩]
              have hal := (Below.refl wl.heap.size wl).alloc (Nat.le_refl _) (.cells #[.int .i64 0, .string ⟨n.toArray⟩, .string ⟨t.toArray⟩, .string ⟨b.toArray⟩] 79)
              have hsl := cut_to b q
              go_upto_region 10 with (fail)
              generalize hwb : wl.alloc (.cells #[.int .i64 0, .string ⟨n.toArray⟩, .string ⟨t.toArray⟩, .string ⟨b.toArray⟩] 79) = wb at *
              clear hwb e0 e1 e2 e3 d0 d1 d2 y0 y1 y2 f0 f1 f2 zD zZ
              have e0 : wb.cell? ⟨wl.heap.size, 0, none⟩ = some (.int .i64 0) := by rw [hqb.cell]; rfl
              have e1 : wb.cell? ⟨wl.heap.size, 1, none⟩ = some (.string ⟨n.toArray⟩) := by rw [hqb.cell]; rfl
              have e2 : wb.cell? ⟨wl.heap.size, 2, none⟩ = some (.string ⟨t.toArray⟩) := by rw [hqb.cell]; rfl
              have e3 : wb.cell? ⟨wl.heap.size, 3, none⟩ = some (.string ⟨b.toArray⟩) := by rw [hqb.cell]; rfl
              have zq := hqb.lt
              have fq := hqb.frozen 3
              have hqb2 := hqb.put 3 (.string ⟨(b.take q).toArray⟩) rfl
              generalize hq9 : wl.heap.size = q9 at *
              have HQ9 := Lib.hid hq9
              have HQB2 := Lib.hid hqb2
              have HAL := Lib.hid hal
              clear hqb hqb2 hal hq9
              go_upto_region 11 with (fail)
              have hal2 : Below q9 wl (wb.setCell ⟨q9, 3, none⟩ (.string ⟨(b.take q).toArray⟩)) := HAL.out.trans ⟨rfl, rfl, rfl, by simp, fun j hj => Below.heap_setCell _ _ _ j (by show j ≠ q9; omega)⟩
              generalize hwc : wb.setCell ⟨q9, 3, none⟩ (.string ⟨(b.take q).toArray⟩) = wc at *
              clear hwc e0 e1 e2 e3 fq zq hsl
              have e0 : wc.cell? ⟨q9, 0, none⟩ = some (.int .i64 0) := by rw [HQB2.out.cell]; rfl
              have e1 : wc.cell? ⟨q9, 1, none⟩ = some (.string ⟨n.toArray⟩) := by rw [HQB2.out.cell]; rfl
              have e2 : wc.cell? ⟨q9, 2, none⟩ = some (.string ⟨t.toArray⟩) := by rw [HQB2.out.cell]; rfl
              have e3 : wc.cell? ⟨q9, 3, none⟩ = some (.string ⟨(b.take q).toArray⟩) := by rw [HQB2.out.cell]; rfl
              have zq := HQB2.out.lt
              rw [← HQ9.out] at hal2
              have DW := docdo_walk (.slice A8 l8 k8) (runF x.sure (x.T.take i)) n t (b.take q) sv true rm wc (HJ.out.1.kept (KeptY.below hal2)) (HO.out.pre i) (fun h => by cases h)
              rw [show kindS ⟨⟨n.toArray⟩, ⟨t.toArray⟩, sv, b.take q, true, rm⟩ = 0 from rfl] at DW
              have HBC := Lib.hid (below_trans HBW.out hal2)
              clear hal2 HBW
              go_wp2_with (fail)
              refine Calls.mono DW ?_
              rintro y w4 ⟨v3, rfl, hr3, hb3⟩
              have HBW := Lib.hid (below_trans HBC.out hb3)
              have HRD := Lib.hid (show RdF w4 v3 (crashF x.sure x.T i q) by rw [CF.out]; exact RdF.of_owns hr3)
              obtain ⟨A9, l9, k9, rfl⟩ : ∃ A l c, v3 = .slice A l c := by obtain ⟨A, c, e⟩ := HRD.out.form; exact ⟨_, _, _, e⟩
              clear DW hr3 hb3 e0 e1 e2 e3 zq HJ
              have kD := HKD.out.below HBW.out
              have kZ := HKZ.out.below HBW.out
              have d0 : w4.cell? ⟨p, 0, none⟩ = some (.slice A1 x.now.length k1) := by rw [kD.cell]; rfl
              have d1 : w4.cell? ⟨p, 1, none⟩ = some (.slice A2 x.sure.length k2) := by rw [kD.cell]; rfl
              have d2 : w4.cell? ⟨p, 2, none⟩ = some (.slice (some ⟨g, 0, none⟩) x.T.length k3) := by rw [kD.cell]; rfl
              have y0 : w4.cell? ⟨p + 1, 0, none⟩ = some (.slice none 0 0) := by rw [kZ.cell]; rfl
              have f0 := kZ.frozen 0
              have y1 : w4.cell? ⟨p + 1, 1, none⟩ = some (.slice none 0 0) := by rw [kZ.cell]; rfl
              have f1 := kZ.frozen 1
              have y2 : w4.cell? ⟨p + 1, 2, none⟩ = some (.slice none 0 0) := by rw [kZ.cell]; rfl
              have f2 := kZ.frozen 2
              have zD := kD.lt
              have zZ := kZ.lt
              clear kD kZ
              go_wp2_with (fail)
              have kZ0 := HKZ.out.below HBW.out
              have kZ1 := kZ0.put 0 (.slice A9 l9 k9) rfl
              have kZ2 := kZ1.put 1 (.slice A9 l9 k9) rfl
              have kZ3 := kZ2.put 2 (.slice none 0 0) rfl
              have KK := (KeptD.set kZ0 0 (.slice A9 l9 k9)).trans ((KeptD.set kZ1 1 (.slice A9 l9 k9)).trans (KeptD.set kZ2 2 (.slice none 0 0)))
              rw [HC.out, HXX.out]
              refine bodyPost_end (results_ct_row rfl _ _ (p + 1) _ _ _ _ rfl kZ3) rfl ⟨_, rfl, ⟨_, _, _, rfl, by rw [HXC.out]; exact HRD.out.keptD KK, by rw [HXC.out]; exact HRD.out.keptD KK, RdD.nil _⟩, ?_⟩
              exact below_set3 (show Below w.heap.size w w4 by rw [HP.out]; exact HBZ.out.trans (HBW.out.mono (by have := HKD.out.lt; omega))) (by rw [HP.out]; omega)
        · have hiT' : ¬ (i : Int) < (x.T.length : Int) := by omega
          have CF := Lib.hid (show crashF x.sure x.T i q = runF x.sure (x.T.take i) by unfold crashF; rw [List.getElem?_eq_none (by omega)])
          go_wp2_with (fail)
          have HRD := Lib.hid HJ.out.1
          have kZ0 := HKZ.out.below HBW.out
          have kZ1 := kZ0.put 0 (.slice A8 l8 k8) rfl
          have kZ2 := kZ1.put 1 (.slice A8 l8 k8) rfl
          have kZ3 := kZ2.put 2 (.slice none 0 0) rfl
          have KK := (KeptD.set kZ0 0 (.slice A8 l8 k8)).trans ((KeptD.set kZ1 1 (.slice A8 l8 k8)).trans (KeptD.set kZ2 2 (.slice none 0 0)))
          rw [HC.out, HXX.out]
          refine bodyPost_end (results_ct_row rfl _ _ (p + 1) _ _ _ _ rfl kZ3) rfl ⟨_, rfl, ⟨_, _, _, rfl, by rw [HXC.out, CF.out]; exact HRD.out.keptD KK, by rw [HXC.out, CF.out]; exact HRD.out.keptD KK, RdD.nil _⟩, ?_⟩
          exact below_set3 (show Below w.heap.size w wl by rw [HP.out]; exact HBZ.out.trans (HBW.out.mono (by have := HKD.out.lt; omega))) (by rw [HP.out]; omega)
end Go.Proofs.YtgocmfjijoibkaaDoor
