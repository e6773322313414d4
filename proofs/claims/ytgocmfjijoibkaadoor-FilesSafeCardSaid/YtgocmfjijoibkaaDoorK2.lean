/- A write. -/
import Derived.Test.YtgocmfjijoibkaaDoorK1
namespace Go.Proofs.YtgocmfjijoibkaaDoor
open Go.RowKit
set_option linter.unusedSimpArgs false
set_option linter.unusedVariables false
theorem checkN_bad {F : List Fl} {s : List UInt8} (h : namedF s = false) : checkN F s = 11 := by unfold checkN; rw [h]; rfl
set_option maxHeartbeats 2000000 in
set_option maxRecDepth 100000 in
theorem write_walk (B d : Nat) (now sure : List Fl) (T : List Stp) (name : ByteArray) (v : Value) (bs : List UInt8) (w : World) (h : DiskAt w B d now sure T) (hv : RdY w v bs) (hbl : bs.length ≤ 9223372036854775807) :
    Calls Tryd.prog 9 #[.pointer (some ⟨d, 0, none⟩), .string name, v] w (StepSaid B d now sure T (writeN now T.length name.data.toList bs.length) ⟨name, ByteArray.empty, v, bs, true, false⟩ w) := by
  have NW := fun W => named_walk name W
  have hBw := h.lo.2
  obtain ⟨A, cap, rfl⟩ := hv.form
  cases hn : namedF name.data.toList with
  | false =>
    have HR := Lib.hid (show writeN now T.length name.data.toList bs.length = 11 by unfold writeN; rw [hn]; rfl)
    have HD := Lib.hid h
    clear h hv
    go_enter Tryd.func9, Tryd.ntmps9
    go_wp2_with (go_at_call 24; refine (NW _).mono ?_; rintro y w1 ⟨rfl, hB⟩; rw [hn])
    go_ret
    exact ⟨by rw [HR.out]; rfl, by rw [HR.out]; exact HD.out.below hB, Fr.below hBw hB⟩
  | true =>
    have hsz : name.size ≤ 32 := named_len hn
    by_cases hbig : 65536 < bs.length
    · have HR := Lib.hid (show writeN now T.length name.data.toList bs.length = 2 by unfold writeN; rw [hn, if_pos rfl, if_pos hbig])
      have HD := Lib.hid h
      have hbig' : (65536 : Int) < (bs.length : Int) := by omega
      clear h hv
      go_enter Tryd.func9, Tryd.ntmps9
      go_wp2_with (go_at_call 24; refine (NW _).mono ?_; rintro y w1 ⟨rfl, hB⟩; rw [hn])
      go_ret
      exact ⟨by rw [HR.out]; rfl, by rw [HR.out]; exact HD.out.below hB, Fr.below hBw hB⟩
    · have hbig' : ¬ (65536 : Int) < (bs.length : Int) := by omega
      have HH := Lib.hid h
      have HV := Lib.hid hv
      clear h hv
      go_enter Tryd.func9, Tryd.ntmps9
      go_upto_region 7 with (go_at_call 24; refine (NW _).mono ?_; rintro y w1 ⟨rfl, hB⟩; rw [hn])
      have h1 := HH.out.below hB
      have hv1 := HV.out.kept (KeptY.below hB)
      have HD := Lib.hid h1
      obtain ⟨_, ⟨rn, rs, sv, hd, hmn, hms, hne, hBn, hBs, how⟩, hAn, _, _⟩ := h1
      have c0 : w1.cell? ⟨d, 0, none⟩ = some (.map (some rn)) := by rw [hd.cell]; rfl
      have zd := hd.lt
      obtain ⟨lv, hl1, _, _⟩ := hmn.look name (by unfold maxLen; omega)
      have hlen := hmn.len
      have hF := Fr.below hBw hB
      have HA := Lib.hid hAn
      have HV1 := Lib.hid hv1
      clear hd hmn hms how hAn hv1 HV HH
      by_cases hfull : (lookF now name.data.toList).isSome = false ∧ 64 ≤ now.length
      · have HR := Lib.hid (show writeN now T.length name.data.toList bs.length = 10 by
          unfold writeN
          rw [hn, if_pos rfl, if_neg hbig, if_pos ⟨by have := hfull.1; simpa using this, hfull.2⟩])
        have hf' : (64 : Int) ≤ (now.length : Int) := by have := hfull.2; omega
        rw [hfull.1] at hl1
        clear hfull
        go_wp2_with (fail)
        go_ret
        exact ⟨by rw [HR.out]; rfl, by rw [HR.out]; exact HD.out, hF⟩
      · have HR := Lib.hid (show writeN now T.length name.data.toList bs.length = if 4096 ≤ T.length then 10 else 0 by
          unfold writeN
          rw [hn, if_pos rfl, if_neg hbig, if_neg]
          intro ⟨e1, e2⟩
          exact hfull ⟨by simpa using e1, e2⟩)
        have hlim := Lib.hid (show (withF now (name.data.toList, bs)).length ≤ 64 by
          rw [with_len HA.out.1]
          have h64 := HA.out.2
          split
          · exact h64
          · rename_i hx
            have : ¬ 64 ≤ now.length := fun e => hfull ⟨by simpa using hx, e⟩
            omega)
        have hgo : (lookF now name.data.toList).isSome = true ∨ ((lookF now name.data.toList).isSome = false ∧ ¬ (64 : Int) ≤ (now.length : Int)) := by
          cases hx : (lookF now name.data.toList).isSome with
          | true => exact .inl rfl
          | false => exact .inr ⟨rfl, fun e => hfull ⟨hx, by omega⟩⟩
        have CW := fun W hW => clone19_walk (.slice A bs.length cap) bs W hW (by omega)
        have DW := fun W v hW hv => done_walk B d now sure T ⟨name, ByteArray.empty, v, bs, true, false⟩ W hW hv hsz (show ByteArray.empty.size ≤ 32 by decide) (by dsimp only; omega) hlim.out
        clear hfull
        rcases hgo with hgo | ⟨hgo, hgo2⟩
        all_goals
          rw [hgo] at hl1
          go_upto_region 10 with (fail)
          go_wp2_with (fail)
          have CW1 := CW w1 HV1.out
          refine Calls.mono CW1 ?_
          rintro y w2 ⟨v2, rfl, hv2, hB2⟩
          obtain ⟨A2, cap2, rfl⟩ := hv2.form
          have DW1 := DW w2 _ (HD.out.below hB2) hv2
          have HV2 := Lib.hid hv2
          clear CW CW1 DW hv2
          go_wp2_with (fail)
          refine Calls.mono DW1 ?_
          rintro y w3 ⟨hy, hF3⟩
          have HF3 := Lib.hid (hF.trans ((Fr.below (by have := hB.size; omega) hB2).trans hF3))
          clear DW1 hF3
          by_cases hst : 4096 ≤ T.length
          · rw [if_pos hst] at hy
            obtain ⟨rfl, hy2⟩ := hy
            rw [if_pos hst] at HR
            have HY := Lib.hid hy2
            clear hy2
            go_wp2_with (fail)
            go_ret
            exact ⟨by rw [HR.out]; rfl, by rw [HR.out]; exact HY.out, HF3.out⟩
          · rw [if_neg hst] at hy
            obtain ⟨rfl, hy2⟩ := hy
            rw [if_neg hst] at HR
            have HY := Lib.hid hy2
            clear hy2
            go_wp2_with (fail)
            go_ret
            exact ⟨by rw [HR.out]; rfl, by rw [HR.out]; exact ⟨_, HY.out⟩, HF3.out⟩
end Go.Proofs.YtgocmfjijoibkaaDoor
