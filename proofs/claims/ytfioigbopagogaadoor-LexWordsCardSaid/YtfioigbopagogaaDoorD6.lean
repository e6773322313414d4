/- LexWords, walked. -/
import Derived.Test.YtfioigbopagogaaDoorX11
import Derived.Test.YtfioigbopagogaaDoorD1
namespace Go.Proofs.YtfioigbopagogaaDoor
open Go.RowKit
set_option linter.unusedVariables false
set_option maxRecDepth 100000 in
set_option maxHeartbeats 4000000 in
theorem words_walk (s : ByteArray) (w : World) (hm : MaxL w) (hs : s.size ≤ 9223372036854775807) :
    Calls Tryd.prog 5 #[.string s] w fun y w' => y = .returned (.bool true) ∧ Below w.heap.size w w' := by
  have HM := Lib.hid hm
  clear hm
  by_cases h1 : 5000 < s.size
  · have h1' : (5000 : Int) < (s.size : Int) := by omega
    have SW := Lib.hid (sure_walk w HM.out)
    clear h1
    go_enter Tryd.func5, Tryd.ntmps5
    go_wp2_with (fail)
    refine SW.out.mono ?_
    rintro y w2 ⟨rfl, B2⟩
    go_wp2
    go_ret
    exact ⟨rfl, B2⟩
  have h1' : ¬ (5000 : Int) < (s.size : Int) := by omega
  have TW := Lib.hid (trim_walk s w hs)
  have TD := Lib.hid (fun W => trimD s W hs)
  have W1 := Lib.hid (fun W => words13 s W (by omega))
  have W2 := Lib.hid (fun W => wordsD s W (by omega))
  obtain ⟨t0, ht0⟩ : ∃ t0 : ByteArray, (⟨(Lib.trimS s.data.toList blanks).toArray⟩ : ByteArray) = t0 := ⟨_, rfl⟩
  rw [ht0] at TW
  have TD2 := Lib.hid (show ∀ W, Calls Tryd.prog 11 #[.string s] W fun y w' => y = .returned (.string t0) ∧ w' = W from fun W => by rw [← ht0]; exact TD.out W)
  have heq : (t0.toList == t0.toList) = true := by simp
  clear ht0 TD
  go_enter Tryd.func5, Tryd.ntmps5
  go_wp2_with (fail)
  refine TW.out.mono ?_
  rintro y w1 ⟨rfl, B1⟩
  have B1 := Lib.hid B1
  clear TW
  go_wp2_with (fail)
  refine (TD2.out w1).mono ?_
  rintro y w2 ⟨rfl, rfl⟩
  clear TD2
  go_wp2_with (fail)
  refine (W1.out w2).mono ?_
  rintro y w3 ⟨⟨v, L, rfl, hL, hLn, own⟩, B3⟩
  have HR := Lib.hid (RdT.of_owns own rfl (Nat.le_refl w3.heap.size))
  have BT := Lib.hid (below_trans B1.out B3)
  have HL := Lib.hid hL
  clear own B1 B3 hL W1
  go_wp2_with (fail)
  refine (W2.out w3).mono ?_
  rintro y w4 ⟨⟨v2, M, rfl, hM, hMn, own⟩, B4⟩
  obtain rfl : L = M := datas_inj (HL.out.trans hM.symm)
  have HR2 := Lib.hid (RdT.of_owns own rfl (Nat.le_refl w4.heap.size))
  have HR1 := Lib.hid ((HR.out.below B4 (Nat.le_refl _)).wider B4.size)
  have BT2 := Lib.hid (below_trans BT.out B4)
  have TX := Lib.hid (texts_walk v v2 L w4 HR1.out HR2.out (by omega))
  clear own B4 hM W2 HR HL BT HR1 HR2
  go_wp2_with (fail)
  refine TX.out.mono ?_
  rintro y w5 ⟨rfl, B5⟩
  have BT3 := Lib.hid (below_trans BT2.out B5)
  clear B5 TX BT2
  go_wp2_with (fail)
  refine (sure_walk _ (HM.out.below BT3.out)).mono ?_
  rintro y w6 ⟨rfl, B6⟩
  have B7 := below_trans BT3.out B6
  go_wp2
  go_ret
  exact ⟨rfl, B7⟩
end Go.Proofs.YtfioigbopagogaaDoor
