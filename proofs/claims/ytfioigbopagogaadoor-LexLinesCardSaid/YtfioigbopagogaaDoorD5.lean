/- The law LexLines, walked. -/
import Derived.Test.YtfioigbopagogaaDoorX3
import Derived.Test.YtfioigbopagogaaDoorD1
import Derived.Deep.QuietTactic
import Derived.BigQuiet
namespace Go.Proofs.YtfioigbopagogaaDoor
open Go.RowKit
set_option linter.unusedVariables false
set_option maxRecDepth 100000 in
set_option maxHeartbeats 1000000 in
theorem same_walk (u v : Value) (L : List Ln) (w : World) (hu : RdL w u w.heap.size L) (hv : RdL w v w.heap.size L) (hl : L.length ≤ 65537) :
    Calls Tryd.prog 16 #[u, v] w fun x w' => x = .returned (.bool true) ∧ Below w.heap.size w w' := by
  obtain ⟨A, cap, rfl⟩ := hu.form
  obtain ⟨A2, cap2, rfl⟩ := hv.form
  have HU := Lib.hid hu
  have HV := Lib.hid hv
  clear hu hv
  have en : ((L.length : Int) != (L.length : Int)) = false := by simp
  go_enter Tryd.func16, Tryd.ntmps16
  go_upto_region 4 with (fail)
  go_loopw [5] (fun iv wr => ∃ i : Nat, iv = .int .i64 i ∧ i ≤ L.length ∧ Below w.heap.size w wr) (fun iv _ => L.length - (intOf iv).toNat)
  case atStart => exact ⟨0, rfl, Nat.zero_le _, Below.refl _ _⟩
  case round =>
    obtain ⟨i, rfl, hi, bel⟩ := hrel
    have i0 : (0 : Int) ≤ i := by omega
    by_cases hlt : i < L.length
    · obtain ⟨g, rfl, c0, c1⟩ := ((HU.out.below bel (Nat.le_refl _)).wider bel.size).cell hlt
      obtain ⟨g2, rfl, d0, d1⟩ := ((HV.out.below bel (Nat.le_refl _)).wider bel.size).cell hlt
      have hlt' : (i : Int) < (L.length : Int) := by omega
      have zg := World.block_lt_of_cell? _ _ c0
      have zg2 := World.block_lt_of_cell? _ _ d0
      generalize L.getD i ln0 = E at *
      have e1 : ((E.a : Int) != (E.a : Int)) = false := by simp
      have e2 : (E.t.toList != E.t.toList) = false := by simp
      have BEL := Lib.hid bel
      clear bel HU HV
      go_upto_region 6 with (fail)
      go_quiet (fail)
      have B2 := Lib.hid (below_drewN BEL.out nq)
      clear BEL c0 c1 d0 d1 e1 e2 zg zg2
      go_wp2_with (fail)
      go_roundw
      case rel => exact ⟨i + 1, by go_num, by omega, B2.out⟩
      case measure => simp [intOf]; omega
    · obtain rfl : i = L.length := by omega
      have BEL := Lib.hid bel
      clear bel
      go_wp2_with (fail)
      go_ret
      exact ⟨rfl, BEL.out⟩
set_option maxRecDepth 100000 in
set_option maxHeartbeats 8000000 in
theorem linesl_walk (s : ByteArray) (w : World) (hg : ErrType w) (hm : MaxL w) (hs : s.size ≤ 9223372036854775807) :
    Calls Tryd.prog 6 #[.string s] w fun y w' => y = .returned (.bool true) ∧ Below w.heap.size w w' := by
  have HG := Lib.hid hg
  have HM := Lib.hid hm
  clear hg hm
  by_cases hmid : 9000 < s.size ∧ s.size ≤ 65536
  · have h1 : (9000 : Int) < (s.size : Int) := by omega
    have h2 : (s.size : Int) ≤ 65536 := by omega
    have SW := Lib.hid (sure_walk w HM.out)
    clear hmid
    go_enter Tryd.func6, Tryd.ntmps6
    go_wp2_with (fail)
    refine SW.out.mono ?_
    rintro y w2 ⟨rfl, B2⟩
    go_wp2
    go_ret
    exact ⟨rfl, B2⟩
  have hcase : s.size ≤ 9000 ∨ 65536 < s.size := by omega
  have LW := Lib.hid (lines_walk s w HM.out hs)
  have H0 : ∃ b : Bool, decide ((9000 : Int) < (s.size : Int)) = b ∧ (b = true → ¬ (s.size : Int) ≤ 65536) := ⟨_, rfl, fun h => by have := of_decide_eq_true h; omega⟩
  obtain ⟨b, hb, hb2⟩ := H0
  go_enter Tryd.func6, Tryd.ntmps6
  have key : ∀ Q : Prop, ((9000 : Int) < (s.size : Int) → ¬ (s.size : Int) ≤ 65536 → Q) → (¬ (9000 : Int) < (s.size : Int) → Q) → Q := fun Q a c => by
    by_cases h : (9000 : Int) < (s.size : Int)
    · exact a h (by omega)
    · exact c h
  refine key _ (fun h1 h2 => ?_) (fun h1 => ?_)
  all_goals
    clear key hb hb2 hmid
    go_upto_region 3 with (fail)
    go_wp2_with (fail)
    refine LW.out.mono ?_
    rintro y w1 ⟨⟨v, L, rfl, hL, hLn, own⟩, B1⟩
    have LD := Lib.hid (linesD s w1 hcase)
    have HR := Lib.hid (RdL.of_owns own rfl (Nat.le_refl w1.heap.size))
    have HG1 := Lib.hid (HG.out.below B1)
    have HM1 := Lib.hid (HM.out.below B1)
    have BH1 := Lib.hid B1
    have HL := Lib.hid hL
    clear own B1 hL LW HG HM
    go_wp2_with (fail)
    refine LD.out.mono ?_
    rintro y w2 ⟨⟨v2, M, rfl, hM, hMn, own⟩, B2⟩
    obtain rfl : L = M := outF_inj (HL.out.trans hM.symm)
    have HR2 := Lib.hid (RdL.of_owns own rfl (Nat.le_refl w2.heap.size))
    have HR1 := Lib.hid ((HR.out.below B2 (Nat.le_refl _)).wider B2.size)
    have HG2 := Lib.hid (HG1.out.below B2)
    have HM2 := Lib.hid (HM1.out.below B2)
    have BH2 := Lib.hid (below_trans BH1.out B2)
    have SM := Lib.hid (same_walk v v2 L w2 HR1.out HR2.out hLn)
    clear own B2 hM LD HR HL HG1 HM1 BH1
    generalize linesF s.data.toList = R at *
    obtain ⟨l, at_, e⟩ := R
    dsimp only at *
    go_wp2_with (fail)
    refine SM.out.mono ?_
    rintro y w3 ⟨rfl, B3⟩
    have HG3 := Lib.hid (HG2.out.below B3)
    have HM3 := Lib.hid (HM2.out.below B3)
    have BH3 := Lib.hid (below_trans BH2.out B3)
    have hat : ((at_ : Int) == (at_ : Int)) = true := by simp
    clear B3 SM HG2 HM2 BH2 HR1 HR2
    go_wp2_with (fail)
    refine (num_errE e _ HG3.out).mono ?_
    rintro y w4 ⟨rfl, B4⟩
    have HM4 := Lib.hid (HM3.out.below B4)
    have BH4 := Lib.hid (below_trans BH3.out B4)
    have hee : (e == e) = true := by simp
    clear B4 HG3 HM3 BH3
    go_wp2_with (fail)
    refine (sure_walk _ HM4.out).mono ?_
    rintro y w5 ⟨rfl, B5⟩
    have B6 := below_trans BH4.out B5
    go_wp2
    go_ret
    exact ⟨rfl, B6⟩
end Go.Proofs.YtfioigbopagogaaDoor
