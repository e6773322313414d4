/- The law MacroNames, walked. -/
import Derived.Test.YtacajmknlknjkaaDoorN3
import Derived.Test.YtacajmknlknjkaaDoorD2
namespace Go.Proofs.YtacajmknlknjkaaDoor
open Go.RowKit
set_option linter.unusedVariables false
theorem pcs_le : ∀ (l : List UInt8), ∀ p ∈ pcs l, p.length ≤ l.length
  | [], p, h => by simp [pcs] at h; subst h; exact Nat.le_refl _
  | c :: l, p, h => by
    obtain ⟨q, r, hq⟩ := pcs_cons l
    by_cases hc : c = 36
    · subst hc
      rw [pcs_eq] at h
      rcases List.mem_cons.1 h with rfl | h
      · simp
      · have := pcs_le l p h; simp; omega
    · rw [pcs_ne hc hq] at h
      rcases List.mem_cons.1 h with rfl | h
      · have := pcs_le l q (by rw [hq]; exact List.mem_cons_self); simp; omega
      · have := pcs_le l p (by rw [hq]; exact List.mem_cons_of_mem _ h); simp; omega
set_option maxRecDepth 100000 in
set_option maxHeartbeats 4000000 in
theorem names_walk (s : ByteArray) (w : World) (hg : ErrType w) (hm : MaxL w) (hs : s.size ≤ 9223372036854775807) :
    Calls Tryd.prog 6 #[.string s] w fun y w' => y = .returned (.bool true) ∧ Below w.heap.size w w' := by
  have HG := Lib.hid hg
  have HM := Lib.hid hm
  by_cases h1 : 3000 < s.size
  · have h1' : (3000 : Int) < (s.size : Int) := by omega
    clear hg hm
    go_enter Tryd.func6, Tryd.ntmps6
    go_wp2_with (fail)
    refine (sure_walk _ HM.out).mono ?_
    rintro y w2 ⟨rfl, B2⟩
    go_wp2
    go_ret
    exact ⟨rfl, B2⟩
  have h1' : ¬ (3000 : Int) < (s.size : Int) := by omega
  obtain ⟨m, hm0⟩ := hm
  have hsl := sz_len s
  have NW := Lib.hid (names14_walk s w m hm0 hs (fun p hp => by have := pcs_le s.data.toList p hp; omega))
  clear hg hm0 hsl
  go_enter Tryd.func6, Tryd.ntmps6
  go_wp2_with (fail)
  refine NW.out.mono ?_
  rintro y w1 ⟨⟨v1, L, rfl, hL, hLl, own1⟩, B1⟩
  have RN := Lib.hid (refnames_walk s w1 (by omega))
  have HS1 := Lib.hid (RdS.of_owns own1 rfl (Nat.le_refl w1.heap.size))
  have BH1 := Lib.hid B1
  have HG1 := Lib.hid (HG.out.below B1)
  have HM1 := Lib.hid (HM.out.below B1)
  have HL := Lib.hid hL
  clear NW own1 B1 HG HM hL
  go_wp2_with (fail)
  refine RN.out.mono ?_
  rintro y w2 ⟨⟨v2, M, rfl, hM, hMl, own2⟩, B2⟩
  obtain rfl : M = L := texts_eq (hM.trans HL.out.symm)
  have HS2 := Lib.hid ((HS1.out.below B2 (Nat.le_refl _)).wider B2.size)
  have HT2 := Lib.hid (RdS.of_owns own2 rfl (Nat.le_refl w2.heap.size))
  have BH2 := Lib.hid (below_trans BH1.out B2)
  have HG2 := Lib.hid (HG1.out.below B2)
  have HM2 := Lib.hid (HM1.out.below B2)
  obtain ⟨m2, hm2⟩ := HM2.out
  have QW := Lib.hid (quote_walk s w2 m2 hm2 (by omega))
  clear RN HS1 BH1 HG1 HM1 HL hM own2 B2 hm2 hMl
  go_wp2_with (fail)
  refine QW.out.mono ?_
  rintro y w3 ⟨⟨z, rfl, hz⟩, B3⟩
  have RQ := Lib.hid (refquote_walk s w3 (by omega))
  have HS3 := Lib.hid ((HS2.out.below B3 (Nat.le_refl _)).wider B3.size)
  have HT3 := Lib.hid ((HT2.out.below B3 (Nat.le_refl _)).wider B3.size)
  have BH3 := Lib.hid (below_trans BH2.out B3)
  have HG3 := Lib.hid (HG2.out.below B3)
  have HM3 := Lib.hid (HM2.out.below B3)
  have HZ := Lib.hid hz
  clear QW HS2 HT2 BH2 HG2 HM2 hz B3
  go_wp2_with (fail)
  refine RQ.out.mono ?_
  rintro y w4 ⟨⟨z2, rfl, hz2⟩, rfl⟩
  obtain rfl : z2 = z := ba_inj (hz2.trans HZ.out.symm)
  have TW := Lib.hid (texts_walk v1 v2 M hLl w4 HS3.out HT3.out)
  have hq : (z2.toList == z2.toList) = true := by simp
  clear RQ hz2 HS3 HT3
  generalize namesE s.data.toList = er at *
  generalize quE s.data.toList = eq at *
  have he : (er == er) = true := by simp
  have he2 : (eq == eq) = true := by simp
  go_wp2_with (fail)
  refine TW.out.mono ?_
  rintro y w5 ⟨rfl, B5⟩
  have BH5 := Lib.hid (below_trans BH3.out B5)
  have HG5 := Lib.hid (HG3.out.below B5)
  have HM5 := Lib.hid (HM3.out.below B5)
  clear TW B5 BH3 HG3 HM3
  go_wp2_with (fail)
  refine (num_errE er _ HG5.out).mono ?_
  rintro y w6 ⟨rfl, B6⟩
  have BH6 := Lib.hid (below_trans BH5.out B6)
  have HG6 := Lib.hid (HG5.out.below B6)
  have HM6 := Lib.hid (HM5.out.below B6)
  clear B6 BH5 HG5 HM5
  go_wp2_with (fail)
  refine (num_errE eq _ HG6.out).mono ?_
  rintro y w7 ⟨rfl, B7⟩
  have BH7 := Lib.hid (below_trans BH6.out B7)
  have HM7 := Lib.hid (HM6.out.below B7)
  clear B7 BH6 HG6 HM6
  go_wp2_with (fail)
  refine (sure_walk _ HM7.out).mono ?_
  rintro y w8 ⟨rfl, B8⟩
  have B9 := below_trans BH7.out B8
  go_wp2
  go_ret
  exact ⟨rfl, B9⟩
end Go.Proofs.YtacajmknlknjkaaDoor
