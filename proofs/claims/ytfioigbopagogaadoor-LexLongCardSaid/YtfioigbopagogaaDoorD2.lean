/- The law LexLong, walked. -/
import Derived.Test.YtfioigbopagogaaDoorD1
namespace Go.Proofs.YtfioigbopagogaaDoor
open Go.RowKit
set_option linter.unusedVariables false
def strOf : Value → ByteArray
  | .string b => b
  | _ => ByteArray.empty
set_option maxRecDepth 100000 in
set_option maxHeartbeats 8000000 in
theorem long_walk (n ahead : Int) (w : World) (hg : ErrType w) (hm : MaxL w) :
    Calls Tryd.prog 7 #[.int .i64 n, .int .i64 ahead] w fun y w' => y = .returned (.bool true) ∧ Below w.heap.size w w' := by
  have HG := Lib.hid hg
  have HM := Lib.hid hm
  clear hg hm
  obtain ⟨x0, x1⟩ := u64m_bd n 12 (by omega)
  obtain ⟨y0, y1⟩ := u64m_bd ahead 4 (by omega)
  obtain ⟨X, hX⟩ : ∃ X : Nat, (IntKind.u64.wrap n).tmod 12 = (X : Int) := ⟨_, (Int.toNat_of_nonneg x0).symm⟩
  obtain ⟨m, hY⟩ : ∃ m : Nat, (IntKind.u64.wrap ahead).tmod 4 = (m : Int) := ⟨_, (Int.toNat_of_nonneg y0).symm⟩
  rw [hX] at x0 x1
  rw [hY] at y0 y1
  have hX5 : X < 12 := by omega
  have hm40 : m < 4 := by omega
  clear x0 x1 y0 y1
  go_enter Tryd.func7, Tryd.ntmps7
  go_upto_region 4 with (fail)
  have hk : (4090 : Int) + (X : Int) = ((X + 4090 : Nat) : Int) := by omega
  rw [hk]
  obtain ⟨K, hK⟩ : ∃ K, X + 4090 = K := ⟨_, rfl⟩
  rw [hK]
  have hK5 : K ≤ 4101 := by omega
  have HK := Lib.hid (show 4090 ≤ K by omega)
  clear hX hk hK hX5
  go_loopw [6, 7] (fun sv iv wr2 => ∃ (sb : ByteArray) (i : Nat), sv = .string sb ∧ iv = .int .i64 i ∧ i ≤ m ∧ sb.data.toList = aheadF i ∧ wr2 = w) (fun _ iv _ => m - (intOf iv).toNat)
  case atStart => exact ⟨⟨#[]⟩, 0, rfl, rfl, Nat.zero_le _, rfl, rfl⟩
  case round =>
    obtain ⟨sb, i, rfl, rfl, hi, hsb, rfl⟩ := hrel
    have HSB := Lib.hid hsb
    have i0 : (0 : Int) ≤ i := by omega
    have hsbs : sb.size ≤ 6 := by rw [← sz_len, hsb, aheadF_len]; omega
    clear hsb
    by_cases him : i < m
    · have him' : (i : Int) < (m : Int) := by omega
      go_wp2_with (fail)
      go_roundw
      case rel =>
        refine ⟨_, i + 1, rfl, by go_num, by omega, ?_, by first | rfl | trivial⟩
        rw [app_data, HSB.out, aheadF_snoc]
      case measure => simp [intOf]; omega
    · obtain rfl : i = m := by omega
      have him' : ¬ (i : Int) < (i : Int) := by omega
      go_upto_region 8 with (fail)
      go_loopw [8] (fun vv wr2 => ∃ vb : ByteArray, vv = .string vb ∧ vb.size ≤ K ∧ vb.data.toList = List.replicate vb.size 98 ∧ wr2 = wr) (fun vv _ => K - (strOf vv).size)
      case atStart => exact ⟨⟨#[]⟩, rfl, Nat.zero_le _, rfl, rfl⟩
      case round =>
        obtain ⟨vb, rfl, hvb, hvd, rfl⟩ := hrel
        have HVD := Lib.hid hvd
        clear hvd
        by_cases h64 : vb.size + 64 ≤ K
        · have h64' : (vb.size : Int) + 64 ≤ (K : Int) := by omega
          go_wp2_with (fail)
          go_roundw
          case rel =>
            refine ⟨_, rfl, ?_, ?_, by first | rfl | trivial⟩
            · rw [ByteArray.size_append]; exact h64
            · rw [app_data, HVD.out, ByteArray.size_append]
              change List.replicate vb.size 98 ++ List.replicate 64 98 = List.replicate (vb.size + 64) 98
              rw [List.replicate_append_replicate]
          case measure =>
            simp only [strOf, ByteArray.size_append]
            show K - (vb.size + 64) < K - vb.size
            omega
        · have h64' : ¬ (vb.size : Int) + 64 ≤ (K : Int) := by omega
          go_upto_region 10 with (fail)
          go_loopw [8] (fun vv wr2 => ∃ vb : ByteArray, vv = .string vb ∧ vb.size ≤ K ∧ vb.data.toList = List.replicate vb.size 98 ∧ wr2 = wr) (fun vv _ => K - (strOf vv).size)
          case atStart => exact ⟨vb, rfl, hvb, HVD.out, rfl⟩
          case round =>
            clear h64 h64' hvb HVD
            obtain ⟨va, rfl, hva, hvd, rfl⟩ := hrel
            have HVD := Lib.hid hvd
            clear hvd
            by_cases hlt : va.size < K
            · have hlt' : (va.size : Int) < (K : Int) := by omega
              go_wp2_with (fail)
              go_roundw
              case rel =>
                refine ⟨_, rfl, ?_, ?_, by first | rfl | trivial⟩
                · rw [ByteArray.size_append]; exact hlt
                · rw [app_data, HVD.out, ByteArray.size_append]
                  change List.replicate va.size 98 ++ List.replicate 1 98 = List.replicate (va.size + 1) 98
                  rw [List.replicate_append_replicate]
              case measure =>
                simp only [strOf, ByteArray.size_append]
                show K - (va.size + 1) < K - va.size
                omega
            · have hlt' : ¬ (va.size : Int) < (K : Int) := by omega
              have hvk : va.size = K := by omega
              obtain ⟨t1, ht1⟩ : ∃ t1, sb ++ (⟨#[32, 32]⟩ : ByteArray) = t1 := ⟨_, rfl⟩
              obtain ⟨t2, ht2⟩ : ∃ t2, t1 ++ va = t2 := ⟨_, rfl⟩
              obtain ⟨t3, ht3⟩ : ∃ t3, t2 ++ (⟨#[32, 59, 32, 109, 111, 114, 101, 10]⟩ : ByteArray) = t3 := ⟨_, rfl⟩
              have hs1 : t1.size ≤ 8 := by rw [← ht1, ByteArray.size_append]; show sb.size + 2 ≤ 8; omega
              have hs2 : t2.size ≤ 4109 := by rw [← ht2, ByteArray.size_append]; omega
              have hs3 : t3.size ≤ 4117 := by rw [← ht3, ByteArray.size_append]; show t2.size + 8 ≤ 4117; omega
              have hd3 : t3.data.toList = aheadF i ++ bigF K ++ [10] := by
                rw [← ht3, app_data, ← ht2, app_data, ← ht1, app_data, HSB.out, HVD.out, hvk]
                simp [bigF]
              have HLS := Lib.hid (show linesF t3.data.toList = if 4096 < K then ⟨[], i + 1, 2⟩ else ⟨(List.range i).map (fun j => (1 + j, [97])) ++ [(i + 1, List.replicate K 98)], 0, 0⟩ by
                unfold linesF
                rw [if_neg (by rw [sz_len]; omega), hd3]
                exact long_lines i K (by have := HK.out; omega))
              have LW := Lib.hid (lines_walk t3 wr HM.out (by omega))
              have HVK := Lib.hid (show va.data.toList = List.replicate K 98 by rw [HVD.out, hvk])
              have HM0 := Lib.hid HM.out
              clear hd3 HVD HSB HM hvk hlt
              go_wp2_with (fail)
              refine LW.out.mono ?_
              rintro y w1 ⟨⟨v, L, rfl, hL, _, own⟩, B1⟩
              have HR := Lib.hid (RdL.of_owns own rfl (Nat.le_refl w1.heap.size))
              obtain ⟨A, cap, rfl⟩ := HR.out.form
              have BH := Lib.hid B1
              clear LW own
              have HG1 := Lib.hid (HG.out.below B1)
              have HM1 := Lib.hid (HM0.out.below B1)
              by_cases hbig : 4096 < K
              · have hbig' : (4096 : Int) < (K : Int) := by omega
                have hls := HLS.out
                rw [if_pos hbig] at hls
                rw [hls] at hL ⊢
                obtain rfl : L = [] := by
                  unfold outF at hL; simpa using hL
                clear hls hL hbig B1 HR HG HM0
                dsimp only
                simp only [errE2]
                have hpush : ((i + 1 : Nat) : Int) = (i : Int) + 1 := by omega
                go_wp2_with (fail)
                refine (num_hit 2 _ HG1.out).mono ?_
                rintro y w2 ⟨rfl, B2⟩
                have HM2 := Lib.hid (HM1.out.below B2)
                have BH2 := Lib.hid (below_trans BH.out B2)
                clear B2
                go_wp2_with (fail)
                refine (sure_walk _ HM2.out).mono ?_
                rintro y w3 ⟨rfl, B3⟩
                have B4 := below_trans BH2.out B3
                go_wp2
                go_ret
                exact ⟨rfl, B4⟩
              · have hbig' : ¬ (4096 : Int) < (K : Int) := by omega
                have hls := HLS.out
                rw [if_neg hbig] at hls
                rw [hls] at hL ⊢
                have hLL : L.length = i + 1 := by
                  have := congrArg List.length hL
                  unfold outF at this; simpa using this
                have htx : (L.getD i ln0).t.data.toList = List.replicate K 98 := by
                  have h1 : (outF L)[i]? = some (i + 1, List.replicate K 98) := by
                    rw [hL, List.getElem?_append_right (by simp)]; simp
                  unfold outF at h1
                  rw [List.getElem?_map, List.getElem?_eq_getElem (by omega)] at h1
                  rw [List.getD_eq_getElem?_getD, List.getElem?_eq_getElem (by omega)]
                  simp at h1
                  simpa using h1.2
                rcases HR.out with ⟨_, h0⟩ | ⟨g, cp, e, hc, hgl, hh⟩
                · rw [h0] at hLL; simp at hLL
                have c1 := (hh i (by omega)).2
                cases e
                rw [hLL] at hc ⊢
                have hte : (L.getD i ln0).t = va := ba_inj (htx.trans HVK.out.symm)
                rw [hte] at c1
                have z1 := World.block_lt_of_cell? _ _ c1
                have hc' : (i : Int) + 1 ≤ (cap : Int) := by omega
                clear hls hL hLL htx hte hbig B1 hh HR HLS hc
                dsimp only
                simp only [errE0]
                have hpush : ((i + 1 : Nat) : Int) = (i : Int) + 1 := by omega
                go_wp2_with (fail)
                refine (sure_walk _ HM1.out).mono ?_
                rintro y w3 ⟨rfl, B3⟩
                have B4 := below_trans BH.out B3
                go_wp2
                go_ret
                exact ⟨rfl, B4⟩
end Go.Proofs.YtfioigbopagogaaDoor
