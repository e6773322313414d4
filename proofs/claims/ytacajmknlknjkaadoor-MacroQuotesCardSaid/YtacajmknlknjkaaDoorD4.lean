/- The law MacroParts, walked. -/
import Derived.Test.YtacajmknlknjkaaDoorD2
namespace Go.Proofs.YtacajmknlknjkaaDoor
open Go.RowKit
set_option linter.unusedVariables false
set_option linter.unusedSimpArgs false
theorem expE_cases (L : List Mc) (l : List UInt8) : expE L l = 0 ∨ expE L l = 2 ∨ expE L l = 3 := by
  unfold expE; split
  · exact .inr (.inl rfl)
  · split
    · exact .inr (.inr rfl)
    · split
      · exact .inr (.inl rfl)
      · exact .inl rfl
/-- Without error the marks are even, and what comes out is no longer than it may be. -/
theorem expE_zero {L : List Mc} {l : List UInt8} (h : expE L l = 0) : l.count 36 % 2 = 0 ∧ (expB L l).length ≤ 65536 ∧ expO L l = expB L l := by
  have h0 := h
  unfold expE at h
  split at h
  · cases h
  · split at h
    · cases h
    · split at h
      · cases h
      · exact ⟨by omega, by omega, by unfold expO; rw [if_pos h0]⟩
theorem exp_app {L : List Mc} {a b : List UInt8} (ha : a.count 36 % 2 = 0) (hb : b.count 36 % 2 = 0) : expB L (a ++ b) = expB L a ++ expB L b := by
  unfold expB
  rw [runB_app]
  have h2 := ((run_pcs L a [] []).1 ha).2
  generalize runB L ⟨false, [], []⟩ a = st at *
  obtain ⟨i, x, o⟩ := st
  simp only at h2
  subst h2
  rw [((run_pcs L b x o).1 hb).1, ((run_pcs L b [] []).1 hb).1]
  simp
theorem errE0 : errE 0 = .nilIface := rfl
theorem errE2 : errE 2 = .iface 56 (.int .i64 2) := rfl
theorem errE3 : errE 3 = .iface 56 (.int .i64 3) := rfl
set_option maxRecDepth 100000 in
set_option maxHeartbeats 8000000 in
theorem partslaw_walk (s t : ByteArray) (v : Value) (L : List Mc) (w : World) (hg : ErrType w) (hm : MaxL w) (hL : RdM w v w.heap.size L) (hl : L.length ≤ 9223372036854775807) (hs : s.size ≤ 9223372036854775807) (ht : t.size ≤ 9223372036854775807) :
    Calls Tryd.prog 5 #[.string s, .string t, v] w fun y w' => y = .returned (.bool true) ∧ Below w.heap.size w w' := by
  obtain ⟨A, cap, rfl⟩ := hL.form
  have HI := Lib.hid hL
  have HG := Lib.hid hg
  have HM := Lib.hid hm
  have BH := Lib.hid (Below.refl w.heap.size w)
  clear hL hg hm
  by_cases h1 : 1000 < s.size
  · have h1' : (1000 : Int) < (s.size : Int) := by omega
    go_enter Tryd.func5, Tryd.ntmps5
    go_wp2_with (fail)
    refine (sure_walk _ HM.out).mono ?_
    rintro y w2 ⟨rfl, B2⟩
    go_wp2
    go_ret
    exact ⟨rfl, B2⟩
  have h1' : ¬ (1000 : Int) < (s.size : Int) := by omega
  by_cases h2 : 1000 < t.size
  · have h2' : (1000 : Int) < (t.size : Int) := by omega
    go_enter Tryd.func5, Tryd.ntmps5
    go_wp2_with (fail)
    refine (sure_walk _ HM.out).mono ?_
    rintro y w2 ⟨rfl, B2⟩
    go_wp2
    go_ret
    exact ⟨rfl, B2⟩
  have h2' : ¬ (1000 : Int) < (t.size : Int) := by omega
  have HU := Lib.hid (huge_walk _ L hl w HI.out)
  go_enter Tryd.func5, Tryd.ntmps5
  go_wp2_with (fail)
  refine HU.out.mono ?_
  rintro y w1 ⟨⟨b, rfl, hb⟩, B1⟩
  have BH1 := Lib.hid B1
  have HM1 := Lib.hid (HM.out.below B1)
  clear HU BH
  cases b with
  | true =>
    clear hb B1
    go_wp2_with (fail)
    refine (sure_walk _ HM1.out).mono ?_
    rintro y w2 ⟨rfl, B2⟩
    have B3 := below_trans BH1.out B2
    go_wp2
    go_ret
    exact ⟨rfl, B3⟩
  | false =>
    obtain ⟨hl60, hsz⟩ := hb rfl
    have HI1 := Lib.hid ((HI.out.below B1 (Nat.le_refl _)).wider B1.size)
    have HG1 := Lib.hid (HG.out.below B1)
    clear hb B1 hsz HI HG HM
    have GV := Lib.hid (give_walk _ L (by omega) w1 HI1.out)
    go_wp2_with (fail)
    refine GV.out.mono ?_
    rintro y w1g ⟨v1, rfl, own, B2⟩
    have HIt := RdM.of_owns own rfl (Nat.le_refl w1g.heap.size)
    obtain ⟨m, hm2⟩ := HM1.out.below B2
    have EX := Lib.hid (expand_walk s v1 L w1g m hm2 HIt (by omega) (by omega))
    have HIq := Lib.hid ((HI1.out.below B2 (Nat.le_refl _)).wider B2.size)
    have HGq := Lib.hid (HG1.out.below B2)
    have HMq := Lib.hid (HM1.out.below B2)
    have BHq := Lib.hid (below_trans BH1.out B2)
    clear own B2 HIt hm2 GV BH1 HI1 HG1 HM1
    go_wp2_with (fail)
    refine EX.out.mono ?_
    rintro y w2 ⟨⟨za, rfl, hz⟩, B3⟩
    have HI2 := Lib.hid ((HIq.out.below B3 (Nat.le_refl _)).wider B3.size)
    have HG2 := Lib.hid (HGq.out.below B3)
    have HM2 := Lib.hid (HMq.out.below B3)
    have BH2 := Lib.hid (below_trans BHq.out B3)
    have HZza := Lib.hid hz
    clear B3 EX HIq HGq HMq BHq hz
    have GV := Lib.hid (give_walk _ L (by omega) w2 HI2.out)
    go_wp2_with (fail)
    refine GV.out.mono ?_
    rintro y w2g ⟨v2, rfl, own, B2⟩
    have HIt := RdM.of_owns own rfl (Nat.le_refl w2g.heap.size)
    obtain ⟨m, hm2⟩ := HM2.out.below B2
    have EX := Lib.hid (expand_walk t v2 L w2g m hm2 HIt (by omega) (by omega))
    have HIq := Lib.hid ((HI2.out.below B2 (Nat.le_refl _)).wider B2.size)
    have HGq := Lib.hid (HG2.out.below B2)
    have HMq := Lib.hid (HM2.out.below B2)
    have BHq := Lib.hid (below_trans BH2.out B2)
    clear own B2 HIt hm2 GV BH2 HI2 HG2 HM2
    go_wp2_with (fail)
    refine EX.out.mono ?_
    rintro y w3 ⟨⟨zb, rfl, hz⟩, B3⟩
    have HI3 := Lib.hid ((HIq.out.below B3 (Nat.le_refl _)).wider B3.size)
    have HG3 := Lib.hid (HGq.out.below B3)
    have HM3 := Lib.hid (HMq.out.below B3)
    have BH3 := Lib.hid (below_trans BHq.out B3)
    have HZzb := Lib.hid hz
    clear B3 EX HIq HGq HMq BHq hz
    obtain ⟨st, hst⟩ : ∃ st, s ++ t = st := ⟨_, rfl⟩
    have hstz : st.size = s.size + t.size := by rw [← hst, ByteArray.size_append]
    have HSTD := Lib.hid (show st.data.toList = s.data.toList ++ t.data.toList by rw [← hst, ByteArray.data_append, Array.toList_append])
    have HSTZ := Lib.hid (show st.size ≤ 9223372036854775807 by omega)
    clear hstz
    have GV := Lib.hid (give_walk _ L (by omega) w3 HI3.out)
    go_wp2_with (fail)
    refine GV.out.mono ?_
    rintro y w3g ⟨v3, rfl, own, B2⟩
    have HIt := RdM.of_owns own rfl (Nat.le_refl w3g.heap.size)
    obtain ⟨m, hm2⟩ := HM3.out.below B2
    have EX := Lib.hid (expand_walk st v3 L w3g m hm2 HIt (by omega) (by exact HSTZ.out))
    have HIq := Lib.hid ((HI3.out.below B2 (Nat.le_refl _)).wider B2.size)
    have HGq := Lib.hid (HG3.out.below B2)
    have HMq := Lib.hid (HM3.out.below B2)
    have BHq := Lib.hid (below_trans BH3.out B2)
    clear own B2 HIt hm2 GV BH3 HI3 HG3 HM3
    go_wp2_with (fail)
    refine EX.out.mono ?_
    rintro y w4 ⟨⟨zc, rfl, hz⟩, B3⟩
    have HI4 := Lib.hid ((HIq.out.below B3 (Nat.le_refl _)).wider B3.size)
    have HG4 := Lib.hid (HGq.out.below B3)
    have HM4 := Lib.hid (HMq.out.below B3)
    have BH4 := Lib.hid (below_trans BHq.out B3)
    have HZzc := Lib.hid hz
    clear B3 EX HIq HGq HMq BHq hz
    have HGx := Lib.hid HG4.out
    have NH := Lib.hid (fun c W' (B : Below w4.heap.size w4 W') => (num_hit c W' (HGx.out.below B)).mono (fun e w' (h : e = .returned (.int .i64 c) ∧ Below W'.heap.size W' w') => (⟨h.1, below_trans B h.2⟩ : e = .returned (.int .i64 c) ∧ Below w4.heap.size w4 w')))
    have SU := Lib.hid (fun W' (B : Below w4.heap.size w4 W') => (sure_walk W' (HM4.out.below B)).mono (fun e w' (h : e = .returned (.bool true) ∧ Below W'.heap.size W' w') => (⟨h.1, below_trans B h.2⟩ : e = .returned (.bool true) ∧ Below w4.heap.size w4 w')))
    have B0 := Lib.hid (Below.refl w4.heap.size w4)
    clear HI4 HG4 HM4 HGx
    have hzs := sz_len za
    have hzt := sz_len zb
    have hzc := sz_len zc
    rcases expE_cases L s.data.toList with ea | ea | ea
    · rcases expE_cases L t.data.toList with eb | eb | eb
      · obtain ⟨ca, la, oa⟩ := expE_zero ea
        obtain ⟨cb, lb, ob⟩ := expE_zero eb
        have hEB := exp_app (L := L) ca cb
        have HC2 := Lib.hid (show (st.data.toList).count 36 % 2 = 0 by rw [HSTD.out, List.count_append]; omega)
        have hza := HZza.out
        have hzb := HZzb.out
        have hzc2 := HZzc.out
        rw [oa] at hza
        rw [ob] at hzb
        have hstl : st.data.toList.length ≤ 65536 := by rw [HSTD.out, List.length_append, sz_len, sz_len]; omega
        have HEB := Lib.hid (show expB L st.data.toList = za.data.toList ++ zb.data.toList by rw [HSTD.out, hEB, hza, hzb])
        have las : za.size ≤ 65536 := by rw [← hzs, hza]; exact la
        have lbs : zb.size ≤ 65536 := by rw [← hzt, hzb]; exact lb
        have HEC := Lib.hid (show expE L st.data.toList = if 65536 < za.size + zb.size then 2 else 0 by
            unfold expE; rw [if_neg (by omega), if_neg (by have := HC2.out; omega), HEB.out, List.length_append, hzs, hzt])
        have HZC := Lib.hid hzc2
        rw [ea, eb]
        clear ea eb ca cb la lb oa ob hEB hza hzb hzc2 hstl hzs hzt hzc
        by_cases hbig : 65536 < za.size + zb.size
        · have hbig' : (65536 : Int) < (za.size : Int) + (zb.size : Int) := by omega
          have he := HEC.out
          rw [if_pos hbig] at he
          obtain rfl : zc = ⟨#[]⟩ := by
            obtain ⟨⟨l⟩⟩ := zc
            have h := HZC.out
            unfold expO at h
            rw [he, if_neg (by decide)] at h
            simp at h; rw [h]
          rw [he]
          simp only [errE0, errE2, errE3]
          clear he hbig
          go_wp2_with (fail)
          refine (NH.out 2 _ B0.out).mono ?_
          rintro y x1 ⟨rfl, C1⟩
          have D1 := Lib.hid C1
          clear C1
          go_wp2_with (fail)
          refine (SU.out _ D1.out).mono ?_
          rintro y xs ⟨rfl, CS⟩
          have BZ := below_trans BH4.out CS
          go_wp2
          go_ret
          exact ⟨rfl, BZ⟩
        · have hbig' : ¬ (65536 : Int) < (za.size : Int) + (zb.size : Int) := by omega
          have he := HEC.out
          rw [if_neg hbig] at he
          have hq : (zc.toList == (za ++ zb).toList) = true := by
            rw [Lib.toList_data, Lib.toList_data, ByteArray.data_append, Array.toList_append, HZC.out]
            unfold expO
            rw [he, if_pos rfl, HEB.out]; simp
          rw [he]
          simp only [errE0, errE2, errE3]
          clear he hbig
          go_wp2_with (fail)
          refine (SU.out _ B0.out).mono ?_
          rintro y xs ⟨rfl, CS⟩
          have BZ := below_trans BH4.out CS
          go_wp2
          go_ret
          exact ⟨rfl, BZ⟩
      · rw [ea, eb]
        simp only [errE0, errE2, errE3]
        clear ea eb
        go_wp2_with (fail)
        refine (NH.out 2 _ B0.out).mono ?_
        rintro y x1 ⟨rfl, C1⟩
        have D1 := Lib.hid C1
        clear C1
        go_wp2_with (fail)
        refine (NH.out 2 _ D1.out).mono ?_
        rintro y x2 ⟨rfl, C2⟩
        have D2 := Lib.hid C2
        clear C2
        go_wp2_with (fail)
        refine (SU.out _ D2.out).mono ?_
        rintro y xs ⟨rfl, CS⟩
        have BZ := below_trans BH4.out CS
        go_wp2
        go_ret
        exact ⟨rfl, BZ⟩
      · rw [ea, eb]
        simp only [errE0, errE2, errE3]
        clear ea eb
        go_wp2_with (fail)
        refine (NH.out 3 _ B0.out).mono ?_
        rintro y x1 ⟨rfl, C1⟩
        have D1 := Lib.hid C1
        clear C1
        go_wp2_with (fail)
        refine (SU.out _ D1.out).mono ?_
        rintro y xs ⟨rfl, CS⟩
        have BZ := below_trans BH4.out CS
        go_wp2
        go_ret
        exact ⟨rfl, BZ⟩
    · rcases expE_cases L t.data.toList with eb | eb | eb
      · rw [ea, eb]
        simp only [errE0, errE2, errE3]
        clear ea eb
        go_wp2_with (fail)
        refine (NH.out 2 _ B0.out).mono ?_
        rintro y x1 ⟨rfl, C1⟩
        have D1 := Lib.hid C1
        clear C1
        go_wp2_with (fail)
        refine (NH.out 2 _ D1.out).mono ?_
        rintro y x2 ⟨rfl, C2⟩
        have D2 := Lib.hid C2
        clear C2
        go_wp2_with (fail)
        refine (SU.out _ D2.out).mono ?_
        rintro y xs ⟨rfl, CS⟩
        have BZ := below_trans BH4.out CS
        go_wp2
        go_ret
        exact ⟨rfl, BZ⟩
      · rw [ea, eb]
        simp only [errE0, errE2, errE3]
        clear ea eb
        go_wp2_with (fail)
        refine (NH.out 2 _ B0.out).mono ?_
        rintro y x1 ⟨rfl, C1⟩
        have D1 := Lib.hid C1
        clear C1
        go_wp2_with (fail)
        refine (NH.out 2 _ D1.out).mono ?_
        rintro y x2 ⟨rfl, C2⟩
        have D2 := Lib.hid C2
        clear C2
        go_wp2_with (fail)
        refine (NH.out 2 _ D2.out).mono ?_
        rintro y x3 ⟨rfl, C3⟩
        have D3 := Lib.hid C3
        clear C3
        go_wp2_with (fail)
        refine (NH.out 2 _ D3.out).mono ?_
        rintro y x4 ⟨rfl, C4⟩
        have D4 := Lib.hid C4
        clear C4
        go_wp2_with (fail)
        refine (SU.out _ D4.out).mono ?_
        rintro y xs ⟨rfl, CS⟩
        have BZ := below_trans BH4.out CS
        go_wp2
        go_ret
        exact ⟨rfl, BZ⟩
      · rw [ea, eb]
        simp only [errE0, errE2, errE3]
        clear ea eb
        go_wp2_with (fail)
        refine (NH.out 2 _ B0.out).mono ?_
        rintro y x1 ⟨rfl, C1⟩
        have D1 := Lib.hid C1
        clear C1
        go_wp2_with (fail)
        refine (NH.out 2 _ D1.out).mono ?_
        rintro y x2 ⟨rfl, C2⟩
        have D2 := Lib.hid C2
        clear C2
        go_wp2_with (fail)
        refine (NH.out 3 _ D2.out).mono ?_
        rintro y x3 ⟨rfl, C3⟩
        have D3 := Lib.hid C3
        clear C3
        go_wp2_with (fail)
        refine (SU.out _ D3.out).mono ?_
        rintro y xs ⟨rfl, CS⟩
        have BZ := below_trans BH4.out CS
        go_wp2
        go_ret
        exact ⟨rfl, BZ⟩
    · rcases expE_cases L t.data.toList with eb | eb | eb
      · rw [ea, eb]
        simp only [errE0, errE2, errE3]
        clear ea eb
        go_wp2_with (fail)
        refine (NH.out 3 _ B0.out).mono ?_
        rintro y x1 ⟨rfl, C1⟩
        have D1 := Lib.hid C1
        clear C1
        go_wp2_with (fail)
        refine (SU.out _ D1.out).mono ?_
        rintro y xs ⟨rfl, CS⟩
        have BZ := below_trans BH4.out CS
        go_wp2
        go_ret
        exact ⟨rfl, BZ⟩
      · rw [ea, eb]
        simp only [errE0, errE2, errE3]
        clear ea eb
        go_wp2_with (fail)
        refine (NH.out 3 _ B0.out).mono ?_
        rintro y x1 ⟨rfl, C1⟩
        have D1 := Lib.hid C1
        clear C1
        go_wp2_with (fail)
        refine (NH.out 2 _ D1.out).mono ?_
        rintro y x2 ⟨rfl, C2⟩
        have D2 := Lib.hid C2
        clear C2
        go_wp2_with (fail)
        refine (NH.out 2 _ D2.out).mono ?_
        rintro y x3 ⟨rfl, C3⟩
        have D3 := Lib.hid C3
        clear C3
        go_wp2_with (fail)
        refine (SU.out _ D3.out).mono ?_
        rintro y xs ⟨rfl, CS⟩
        have BZ := below_trans BH4.out CS
        go_wp2
        go_ret
        exact ⟨rfl, BZ⟩
      · rw [ea, eb]
        simp only [errE0, errE2, errE3]
        clear ea eb
        go_wp2_with (fail)
        refine (NH.out 3 _ B0.out).mono ?_
        rintro y x1 ⟨rfl, C1⟩
        have D1 := Lib.hid C1
        clear C1
        go_wp2_with (fail)
        refine (NH.out 3 _ D1.out).mono ?_
        rintro y x2 ⟨rfl, C2⟩
        have D2 := Lib.hid C2
        clear C2
        go_wp2_with (fail)
        refine (SU.out _ D2.out).mono ?_
        rintro y xs ⟨rfl, CS⟩
        have BZ := below_trans BH4.out CS
        go_wp2
        go_ret
        exact ⟨rfl, BZ⟩
end Go.Proofs.YtacajmknlknjkaaDoor
