/- A file taken away, one renamed. -/
import Derived.Test.YtgocmfjijoibkaaDoorK2
namespace Go.Proofs.YtgocmfjijoibkaaDoor
open Go.RowKit
set_option linter.unusedSimpArgs false
set_option linter.unusedVariables false
theorem move_le {F : List Fl} (h : Asc F) (s dst bs : List UInt8) (hs : (lookF F s).isSome = true) (h64 : F.length ≤ 64) : (withF (withoutF F s) (dst, bs)).length ≤ 64 := by
  have h1 := without_len h s
  rw [hs] at h1
  have h2 := with_le (withoutF F s) (dst, bs)
  simp at h1
  omega
def StepSaid0 (B d : Nat) (now sure : List Fl) (T : List Stp) (n : Int) (s : Stp) (w : World) (y : Ending) (w' : World) : Prop :=
  y = .returned (errI n) ∧ (if n = 0 then DiskAt w' B d (doF now s) sure (T ++ [s]) else DiskAt w' B d now sure T) ∧ Fr B w w'
set_option maxHeartbeats 2000000 in
set_option maxRecDepth 100000 in
theorem remove_walk (B d : Nat) (now sure : List Fl) (T : List Stp) (name : ByteArray) (w : World) (h : DiskAt w B d now sure T) :
    Calls Tryd.prog 12 #[.pointer (some ⟨d, 0, none⟩), .string name] w (StepSaid0 B d now sure T (removeN now T.length name.data.toList) ⟨name, ByteArray.empty, .slice none 0 0, [], false, true⟩ w) := by
  have CK := check_walk B d now sure T name w h
  have hBw := h.lo.2
  have HH := Lib.hid h
  clear h
  go_enter Tryd.func12, Tryd.ntmps12
  go_upto_region 1 with (fail)
  go_wp2_with (fail)
  refine Calls.mono CK ?_
  rintro y w1 ⟨rfl, hB⟩
  have HB := Lib.hid hB
  have HD := Lib.hid (HH.out.below hB)
  clear CK hB
  by_cases hc : checkN now name.data.toList = 0
  · have HR := Lib.hid (show removeN now T.length name.data.toList = if 4096 ≤ T.length then 10 else 0 by unfold removeN; rw [if_pos hc])
    obtain ⟨hnm, hlk⟩ := checkN_zero hc
    have hsz : name.size ≤ 32 := named_len hnm
    have DW1 := done_walk B d now sure T ⟨name, ByteArray.empty, .slice none 0 0, [], false, true⟩ w1 HD.out (RdY.nil _) hsz (show ByteArray.empty.size ≤ 32 by decide) (by simp) (by
      have h64 := HD.out.an.2
      have := without_le now name.data.toList
      show (withoutF now name.data.toList).length ≤ 64
      omega)
    rw [hc, errI_zero]
    clear hc hnm hlk
    go_wp2_with (fail)
    refine Calls.mono DW1 ?_
    rintro y w3 ⟨hy, hF3⟩
    have HF3 := Lib.hid ((Fr.below hBw HB.out).trans hF3)
    clear DW1 hF3
    by_cases hst : 4096 ≤ T.length
    · rw [if_pos hst] at hy
      obtain ⟨rfl, hy2⟩ := hy
      rw [if_pos hst] at HR
      have HY := Lib.hid hy2
      clear hy2
      go_wp2_with (fail)
      go_ret
      exact ⟨by rw [HR.out]; rfl, by rw [HR.out]; exact HY.out, HF3.out⟩
    · rw [if_neg hst] at hy
      obtain ⟨rfl, hy2⟩ := hy
      rw [if_neg hst] at HR
      have HY := Lib.hid hy2
      clear hy2
      go_wp2_with (fail)
      go_ret
      exact ⟨by rw [HR.out]; rfl, by rw [HR.out]; exact HY.out, HF3.out⟩
  · have HR := Lib.hid (show removeN now T.length name.data.toList = checkN now name.data.toList by unfold removeN; rw [if_neg hc])
    have HC := Lib.hid hc
    rw [errI_ne hc]
    generalize checkN now name.data.toList = c at *
    clear hc
    go_wp2_with (fail)
    go_ret
    exact ⟨by rw [HR.out, errI_ne HC.out]; rfl, by rw [HR.out, if_neg HC.out]; exact HD.out, Fr.below hBw HB.out⟩
set_option maxHeartbeats 2000000 in
set_option maxRecDepth 100000 in
theorem rename_walk (B d : Nat) (now sure : List Fl) (T : List Stp) (name dst : ByteArray) (w : World) (h : DiskAt w B d now sure T) :
    Calls Tryd.prog 21 #[.pointer (some ⟨d, 0, none⟩), .string name, .string dst] w (StepSaid0 B d now sure T (moveN now T.length name.data.toList dst.data.toList) ⟨name, dst, .slice none 0 0, [], false, false⟩ w) := by
  have hBw := h.lo.2
  have HH := Lib.hid h
  have NW := named_walk dst w
  clear h
  cases hn : namedF dst.data.toList with
  | false =>
    have HR := Lib.hid (show moveN now T.length name.data.toList dst.data.toList = 11 by unfold moveN; rw [hn]; rfl)
    go_enter Tryd.func21, Tryd.ntmps21
    go_upto_region 1 with (fail)
    go_wp2_with (fail)
    refine Calls.mono NW ?_
    rintro y w1 ⟨rfl, hB⟩
    rw [hn]
    go_wp2_with (fail)
    go_ret
    exact ⟨by rw [HR.out]; rfl, by rw [HR.out]; exact HH.out.below hB, Fr.below hBw hB⟩
  | true =>
    have hsz2 : dst.size ≤ 32 := named_len hn
    go_enter Tryd.func21, Tryd.ntmps21
    go_upto_region 1 with (fail)
    go_wp2_with (fail)
    refine Calls.mono NW ?_
    rintro y w0 ⟨rfl, hB0⟩
    rw [hn]
    have CK := check_walk B d now sure T name w0 (HH.out.below hB0)
    have HB0 := Lib.hid hB0
    clear NW hB0
    go_wp2_with (fail)
    refine Calls.mono CK ?_
    rintro y w1 ⟨rfl, hB⟩
    have HB := Lib.hid ((Fr.below hBw HB0.out).trans (Fr.below (by have := HB0.out.size; omega) hB))
    have HD := Lib.hid ((HH.out.below HB0.out).below hB)
    clear CK hB
    by_cases hc : checkN now name.data.toList = 0
    · have HR := Lib.hid (show moveN now T.length name.data.toList dst.data.toList = if 4096 ≤ T.length then 10 else 0 by unfold moveN; rw [hn, if_pos rfl, if_pos hc])
      obtain ⟨hnm, hlk⟩ := checkN_zero hc
      have hsz : name.size ≤ 32 := named_len hnm
      have DW1 := done_walk B d now sure T ⟨name, dst, .slice none 0 0, [], false, false⟩ w1 HD.out (RdY.nil _) hsz hsz2 (by simp) (move_le HD.out.an.1 _ _ _ hlk HD.out.an.2)
      rw [hc, errI_zero]
      clear hc hnm hlk
      go_wp2_with (fail)
      refine Calls.mono DW1 ?_
      rintro y w3 ⟨hy, hF3⟩
      have HF3 := Lib.hid (HB.out.trans hF3)
      clear DW1 hF3
      by_cases hst : 4096 ≤ T.length
      · rw [if_pos hst] at hy
        obtain ⟨rfl, hy2⟩ := hy
        rw [if_pos hst] at HR
        have HY := Lib.hid hy2
        clear hy2
        go_wp2_with (fail)
        go_ret
        exact ⟨by rw [HR.out]; rfl, by rw [HR.out]; exact HY.out, HF3.out⟩
      · rw [if_neg hst] at hy
        obtain ⟨rfl, hy2⟩ := hy
        rw [if_neg hst] at HR
        have HY := Lib.hid hy2
        clear hy2
        go_wp2_with (fail)
        go_ret
        exact ⟨by rw [HR.out]; rfl, by rw [HR.out]; exact HY.out, HF3.out⟩
    · have HR := Lib.hid (show moveN now T.length name.data.toList dst.data.toList = checkN now name.data.toList by unfold moveN; rw [hn, if_pos rfl, if_neg hc])
      have HC := Lib.hid hc
      rw [errI_ne hc]
      generalize checkN now name.data.toList = c at *
      clear hc
      go_wp2_with (fail)
      go_ret
      exact ⟨by rw [HR.out, errI_ne HC.out]; rfl, by rw [HR.out, if_neg HC.out]; exact HD.out, HB.out⟩
end Go.Proofs.YtgocmfjijoibkaaDoor
