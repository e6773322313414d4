/- The law MacroExpands, walked. -/
import Derived.Test.YtacajmknlknjkaaDoorD1
namespace Go.Proofs.YtacajmknlknjkaaDoor
open Go.RowKit
set_option linter.unusedVariables false
set_option maxRecDepth 100000 in
set_option maxHeartbeats 2000000 in
theorem expands_walk (s : ByteArray) (v : Value) (L : List Mc) (w : World) (hg : ErrType w) (hm : MaxL w) (hL : RdM w v w.heap.size L) (hl : L.length ≤ 9223372036854775807) (hs : s.size ≤ 9223372036854775807) :
    Calls Tryd.prog 3 #[.string s, v] w fun y w' => y = .returned (.bool true) ∧ Below w.heap.size w w' := by
  obtain ⟨A, cap, rfl⟩ := hL.form
  have HI := Lib.hid hL
  have HG := Lib.hid hg
  have HM := Lib.hid hm
  clear hL hg hm
  by_cases h1 : 1500 < s.size
  · have h1' : (1500 : Int) < (s.size : Int) := by omega
    go_enter Tryd.func3, Tryd.ntmps3
    go_wp2_with (fail)
    refine (sure_walk _ HM.out).mono ?_
    rintro y w2 ⟨rfl, B2⟩
    go_wp2
    go_ret
    exact ⟨rfl, B2⟩
  have h1' : ¬ (1500 : Int) < (s.size : Int) := by omega
  have HU := Lib.hid (huge_walk _ L hl w HI.out)
  go_enter Tryd.func3, Tryd.ntmps3
  go_wp2_with (fail)
  refine HU.out.mono ?_
  rintro y w1 ⟨⟨b, rfl, hb⟩, B1⟩
  have BH := Lib.hid B1
  have HM1 := Lib.hid (HM.out.below B1)
  clear HU
  cases b with
  | true =>
    clear hb B1
    go_wp2_with (fail)
    refine (sure_walk _ HM1.out).mono ?_
    rintro y w2 ⟨rfl, B2⟩
    have B3 := below_trans BH.out B2
    go_wp2
    go_ret
    exact ⟨rfl, B3⟩
  | false =>
    obtain ⟨hl60, hsz⟩ := hb rfl
    have HSZ := Lib.hid hsz
    have HI1 := Lib.hid ((HI.out.below B1 (Nat.le_refl _)).wider B1.size)
    have HG1 := Lib.hid (HG.out.below B1)
    have GV := Lib.hid (give_walk _ L (by omega) w1 HI1.out)
    clear hb B1 hsz HI HG HM
    go_wp2_with (fail)
    refine GV.out.mono ?_
    rintro y w2 ⟨v2, rfl, own, B2⟩
    have HI2 := RdM.of_owns own rfl (Nat.le_refl w2.heap.size)
    obtain ⟨m, hm2⟩ := HM1.out.below B2
    have EX := Lib.hid (expand_walk s v2 L w2 m hm2 HI2 (by omega) (by omega))
    have HI3 := Lib.hid ((HI1.out.below B2 (Nat.le_refl _)).wider B2.size)
    have HG3 := Lib.hid (HG1.out.below B2)
    have HM3 := Lib.hid (HM1.out.below B2)
    have BH3 := Lib.hid (below_trans BH.out B2)
    clear own B2 HI2 hm2 GV BH HI1 HG1 HM1
    go_wp2_with (fail)
    refine EX.out.mono ?_
    rintro y w3 ⟨⟨z, rfl, hz⟩, B3⟩
    have RE := Lib.hid (refexpand_walk s (.slice A L.length cap) L w3 ((HI3.out.below B3 (Nat.le_refl _)).wider B3.size) (by omega) (by omega) (fun e he => by have := (HSZ.out e he).2; omega))
    have HG4 := Lib.hid (HG3.out.below B3)
    have HM4 := Lib.hid (HM3.out.below B3)
    have BH4 := Lib.hid (below_trans BH3.out B3)
    have HZ := Lib.hid hz
    clear B3 EX HI3 HG3 HM3 BH3 hz
    go_wp2_with (fail)
    refine RE.out.mono ?_
    rintro y w4 ⟨⟨z2, rfl, hz2⟩, rfl⟩
    have hq : (z.toList == z2.toList) = true := by rw [Lib.toList_data, Lib.toList_data, HZ.out, hz2]; simp
    have NW := Lib.hid (num_errE (expE L s.data.toList) w4 HG4.out)
    clear RE hz2
    generalize expE L s.data.toList = er at *
    have he : (er == er) = true := by simp
    go_wp2_with (fail)
    refine NW.out.mono ?_
    rintro y w5 ⟨rfl, B5⟩
    have HM5 := Lib.hid (HM4.out.below B5)
    have BH5 := Lib.hid (below_trans BH4.out B5)
    clear NW HM4 BH4 B5 hq HG4
    go_wp2_with (fail)
    refine (sure_walk _ HM5.out).mono ?_
    rintro y w6 ⟨rfl, B6⟩
    have B7 := below_trans BH5.out B6
    go_wp2
    go_ret
    exact ⟨rfl, B7⟩
end Go.Proofs.YtacajmknlknjkaaDoor
