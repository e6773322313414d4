/- FilesFull walked. -/
import Derived.Test.YtgocmfjijoibkaaDoorG1
namespace Go.Proofs.YtgocmfjijoibkaaDoor
open Go.RowKit
set_option linter.unusedSimpArgs false
set_option linter.unusedVariables false
set_option linter.unusedVariables false
theorem one_byte (w : World) (b : UInt8) : RdY (w.alloc (.cells #[.int .u8 (b.toNat : Int)] 5)) (.slice (some ⟨w.heap.size, 0, none⟩) 1 1) [b] := .inr ⟨_, 0, 1, _, _, rfl, by simp, heap_alloc_new w _, by simp, fun i hi => by
    have : i = 0 := by simp at hi; omega
    subst this; rfl⟩
theorem byte_wrap (i : Nat) : IntKind.u8.wrap (i : Int) = ((UInt8.ofNat i).toNat : Int) := by
  simp only [IntKind.wrap, IntKind.signed, IntKind.bits, UInt8.toNat_ofNat']
  simp
def FLo (B d n t : Nat) (w1 wl : World) : Prop := FullD wl B d n t ∧ Below B w1 wl
set_option maxHeartbeats 8000000 in
set_option maxRecDepth 100000 in
theorem filesFull_walk (n : Int) (w : World) (hg : ErrType w) : Calls Tryd.prog 3 #[.int .i64 n] w (SureSaid w) := by
  have NW := new_ok w
  have HG := Lib.hid hg
  have hm := u64m_bd n 64 (by omega)
  obtain ⟨k, hk⟩ : ∃ k : Nat, ((IntKind.u64.wrap n).tmod 64) = (k : Int) := ⟨_, (Int.toNat_of_nonneg hm.1).symm⟩
  have hk64 : k < 64 := by omega
  have hkw : IntKind.i64.wrap (k : Int) = (k : Int) := by rw [IntKind.wrap_i64]; omega
  have k0 : (0 : Int) ≤ k := by omega
  clear hg hm
  go_enter Tryd.func3, Tryd.ntmps3
  go_upto_region 1 with (fail)
  go_wp2_with (fail)
  refine Calls.mono NW ?_
  rintro y w1 ⟨d, rfl, hd, hB1⟩
  generalize hB : w.heap.size = B at *
  have HB1 := Lib.hid hB1
  have HG1 := Lib.hid (show ErrType w1 from HG.out.below (by rw [hB]; exact hB1))
  have HGB := Lib.hid (show 0 < B by rw [← hB]; exact HG.out.lt)
  have HF := Lib.hid (show FLo B d 0 0 w1 w1 from ⟨⟨_, hd, rfl, (fun y => ⟨fun h => (nomatch h), fun ⟨j, hj, _⟩ => absurd hj (by omega)⟩), rfl⟩, Below.refl _ _⟩)
  clear NW hd hB1 HG
  go_upto_region 6 with (fail)
  go_wp2_with (fail)
  go_loopw [6] (fun iv wl => ∃ i : Nat, iv = .int .i64 i ∧ i ≤ 64 ∧ FLo B d i i w1 wl) (fun iv _ => 64 - (intOf iv).toNat)
  case atStart => exact ⟨0, rfl, by omega, HF.out⟩
  case round =>
    obtain ⟨wl, rfl⟩ : ∃ Z, Z = wr := ⟨_, rfl⟩
    obtain ⟨i, rfl, hi, hI⟩ := hrel
    have HI := Lib.hid hI
    clear hI HF
    have i0 : (0 : Int) ≤ i := by omega
    by_cases hi64 : i < 64
    · have hi64' : (i : Int) < 64 := by omega
      have NM := name_walk i hi64 wl
      go_wp2_with (fail)
      refine Calls.mono NM ?_
      rintro y w2 ⟨rfl, hB2⟩
      have hbw := byte_wrap i
      have hal := (Below.refl w2.heap.size w2).alloc (Nat.le_refl _) (.cells #[.int .u8 ((UInt8.ofNat i).toNat : Int)] 5)
      have CW := full_new B d i i _ [UInt8.ofNat i] _ ((HI.out.1.below hB2).below hal) hi64 (by omega) (one_byte w2 _) (by simp)
      have HB2 := Lib.hid ((HI.out.2.trans (hB2.mono HI.out.1.lo)).trans (hal.mono (Nat.le_trans HI.out.1.lo hB2.size)))
      generalize (UInt8.ofNat i).toNat = bt at *
      have bt0 : (0 : Int) ≤ (bt : Int) := by omega
      clear NM hal hB2
      go_wp2_with (fail)
      refine Calls.mono CW ?_
      rintro y w3 ⟨rfl, hf, hb⟩
      have HNX := Lib.hid (show FLo B d (i + 1) (i + 1) w1 w3 from ⟨hf, HB2.out.trans hb⟩)
      clear CW hf hb
      go_wp2_with (fail)
      go_roundw
      case rel => exact ⟨i + 1, by go_num, by omega, HNX.out⟩
      case measure => simp [intOf]; omega
    · have hi64' : ¬ (i : Int) < 64 := by omega
      obtain rfl : i = 64 := by omega
      have CW := full_no B d 64 wl HI.out.1
      go_wp2_with (fail)
      refine Calls.mono CW ?_
      rintro y w2 ⟨rfl, hf, hb⟩
      have HI2 := Lib.hid (show FLo B d 64 64 w1 w2 from ⟨hf, HI.out.2.trans hb⟩)
      have HG2 := Lib.hid (show ErrType w2 from (HI2.out.2.cell (p := ⟨0, 0, none⟩) HGB.out).trans HG1.out)
      have NM := num_errI 10 w2 HG2.out
      clear CW hf hb HI
      go_wp2_with (fail)
      refine Calls.mono NM ?_
      rintro y w3 ⟨rfl, hb⟩
      have HI3 := Lib.hid (show FLo B d 64 64 w1 w3 from ⟨HI2.out.1.below hb, HI2.out.2.trans (hb.mono HI2.out.1.lo)⟩)
      have NK := name_walk k hk64 w3
      clear NM hb HI2 HG2
      go_wp2_with (fail)
      refine Calls.mono NK ?_
      rintro y w4 ⟨rfl, hb⟩
      have HI4 := Lib.hid (show FLo B d 64 64 w1 w4 from ⟨HI3.out.1.below hb, HI3.out.2.trans (hb.mono HI3.out.1.lo)⟩)
      have CW := full_old B d k 64 _ [] w4 HI4.out.1 hk64 (by omega) (RdY.nil _) (by simp)
      clear NK hb HI3
      go_wp2_with (fail)
      refine Calls.mono CW ?_
      rintro y w5 ⟨rfl, hf, hb⟩
      have HI5 := Lib.hid (show FLo B d 64 65 w1 w5 from ⟨hf, HI4.out.2.trans hb⟩)
      have CN := full_names B d 65 w5 HI5.out.1
      clear CW hf hb HI4
      go_wp2_with (fail)
      refine Calls.mono CN ?_
      rintro y w6 ⟨⟨A6, c6, rfl⟩, hb⟩
      have HI6 := Lib.hid (show FLo B d 64 65 w1 w6 from ⟨HI5.out.1.below hb, HI5.out.2.trans (hb.mono HI5.out.1.lo)⟩)
      clear CN hb HI5
      go_upto_region 13 with (fail)
      go_wp2_with (fail)
      go_loopw [7] (fun iv wl => ∃ i : Nat, iv = .int .i64 i ∧ 65 ≤ i ∧ i ≤ 4096 ∧ FLo B d 64 i w1 wl) (fun iv _ => 4096 - (intOf iv).toNat)
      case atStart => exact ⟨65, rfl, by omega, by omega, HI6.out⟩
      case round =>
        obtain ⟨wl, rfl⟩ : ∃ Z, Z = wr := ⟨_, rfl⟩
        obtain ⟨i, rfl, hi65, hi, hI⟩ := hrel
        have HI := Lib.hid hI
        clear hI HI6
        have i0 : (0 : Int) ≤ i := by omega
        by_cases hi64 : i < 4096
        · have hi64' : (i : Int) < 4096 := by omega
          have NM := name_walk k hk64 wl
          go_wp2_with (fail)
          refine Calls.mono NM ?_
          rintro y w2 ⟨rfl, hB2⟩
          have hbw := byte_wrap i
          have hal := (Below.refl w2.heap.size w2).alloc (Nat.le_refl _) (.cells #[.int .u8 ((UInt8.ofNat i).toNat : Int)] 5)
          have CW := full_old B d k i _ [UInt8.ofNat i] _ ((HI.out.1.below hB2).below hal) hk64 hi64 (one_byte w2 _) (by simp)
          have HB2 := Lib.hid ((HI.out.2.trans (hB2.mono HI.out.1.lo)).trans (hal.mono (Nat.le_trans HI.out.1.lo hB2.size)))
          generalize (UInt8.ofNat i).toNat = bt at *
          have bt0 : (0 : Int) ≤ (bt : Int) := by omega
          clear NM hal hB2
          go_wp2_with (fail)
          refine Calls.mono CW ?_
          rintro y w3 ⟨rfl, hf, hb⟩
          have HNX := Lib.hid (show FLo B d 64 (i + 1) w1 w3 from ⟨hf, HB2.out.trans hb⟩)
          clear CW hf hb
          go_wp2_with (fail)
          go_roundw
          case rel => exact ⟨i + 1, by go_num, by omega, by omega, HNX.out⟩
          case measure => simp [intOf]; omega
        · have hi64' : ¬ (i : Int) < 4096 := by omega
          obtain rfl : i = 4096 := by omega
          have NK := name_walk k hk64 wl
          go_wp2_with (fail)
          refine Calls.mono NK ?_
          rintro y w21 ⟨rfl, hb⟩
          have HI21 := Lib.hid (show FLo B d 64 4096 w1 w21 from ⟨HI.out.1.below hb, HI.out.2.trans (hb.mono HI.out.1.lo)⟩)
          clear NK hb HI
          have CW := full_top B d k hk64 w21 HI21.out.1
          go_wp2_with (fail)
          refine Calls.mono CW ?_
          rintro y w22 ⟨rfl, hf, hb⟩
          have HI22 := Lib.hid (show FLo B d 64 4096 w1 w22 from ⟨hf, HI21.out.2.trans hb⟩)
          clear CW hf hb HI21
          have HGn := Lib.hid (show ErrType w22 from (HI22.out.2.cell (p := ⟨0, 0, none⟩) HGB.out).trans HG1.out)
          have NM := num_errI 10 w22 HGn.out
          go_wp2_with (fail)
          refine Calls.mono NM ?_
          rintro y w23 ⟨rfl, hb⟩
          have HI23 := Lib.hid (show FLo B d 64 4096 w1 w23 from ⟨HI22.out.1.below hb, HI22.out.2.trans (hb.mono HI22.out.1.lo)⟩)
          clear NM hb HI22 HGn
          have NK := name_walk k hk64 w23
          go_wp2_with (fail)
          refine Calls.mono NK ?_
          rintro y w24 ⟨rfl, hb⟩
          have HI24 := Lib.hid (show FLo B d 64 4096 w1 w24 from ⟨HI23.out.1.below hb, HI23.out.2.trans (hb.mono HI23.out.1.lo)⟩)
          clear NK hb HI23
          have CW := full_rm B d k hk64 w24 HI24.out.1
          go_wp2_with (fail)
          refine Calls.mono CW ?_
          rintro y w25 ⟨rfl, hf, hb⟩
          have HI25 := Lib.hid (show FLo B d 64 4096 w1 w25 from ⟨hf, HI24.out.2.trans hb⟩)
          clear CW hf hb HI24
          have HGn := Lib.hid (show ErrType w25 from (HI25.out.2.cell (p := ⟨0, 0, none⟩) HGB.out).trans HG1.out)
          have NM := num_errI 10 w25 HGn.out
          go_wp2_with (fail)
          refine Calls.mono NM ?_
          rintro y w26 ⟨rfl, hb⟩
          have HI26 := Lib.hid (show FLo B d 64 4096 w1 w26 from ⟨HI25.out.1.below hb, HI25.out.2.trans (hb.mono HI25.out.1.lo)⟩)
          clear NM hb HI25 HGn
          have CW := full_sync B d 4096 w26 HI26.out.1
          go_wp2_with (fail)
          refine Calls.mono CW ?_
          rintro y w27 ⟨rfl, hf, hb⟩
          have HI27 := Lib.hid (show FLo B d 64 0 w1 w27 from ⟨hf, HI26.out.2.trans hb⟩)
          clear CW hf hb HI26
          have NK := name_walk k hk64 w27
          go_wp2_with (fail)
          refine Calls.mono NK ?_
          rintro y w28 ⟨rfl, hb⟩
          have HI28 := Lib.hid (show FLo B d 64 0 w1 w28 from ⟨HI27.out.1.below hb, HI27.out.2.trans (hb.mono HI27.out.1.lo)⟩)
          clear NK hb HI27
          have CW := full_rm2 B d k hk64 w28 HI28.out.1
          go_wp2_with (fail)
          refine Calls.mono CW ?_
          rintro y w29 ⟨rfl, hf, hb⟩
          have HLE := Lib.hid hf
          have HBL := Lib.hid (show Below B w1 w29 from HI28.out.2.trans hb)
          clear CW hf hb HI28
          have CW := full_more B d w29 HLE.out
          go_wp2_with (fail)
          refine Calls.mono CW ?_
          rintro y w40 ⟨rfl, hl, hb⟩
          have HLO := Lib.hid hl
          have HBM := Lib.hid (HB1.out.trans (HBL.out.trans hb))
          clear CW hl hb HBL HLE
          have SW := sure_walk w40
          go_wp2_with (fail)
          refine Calls.mono SW ?_
          rintro y w41 ⟨rfl, hb⟩
          have HR := Lib.hid (show Below B w w41 from HBM.out.trans (hb.mono HLO.out))
          clear SW hb
          go_wp2_with (fail)
          go_ret
          exact ⟨rfl, by rw [hB]; exact HR.out⟩
end Go.Proofs.YtgocmfjijoibkaaDoor
