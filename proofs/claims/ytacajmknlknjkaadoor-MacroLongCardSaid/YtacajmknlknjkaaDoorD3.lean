/- The law MacroLong, walked. -/
import Derived.Test.YtacajmknlknjkaaDoorD4
namespace Go.Proofs.YtacajmknlknjkaaDoor
open Go.RowKit
set_option linter.unusedVariables false
def strOf : Value → ByteArray
  | .string b => b
  | _ => ByteArray.empty
/-- The text of marks: so many names, each with a stroke behind it. -/
def longT : Nat → List UInt8
  | 0 => []
  | n + 1 => longT n ++ [36, 86, 36, 45]
theorem longT_len (n : Nat) : (longT n).length = 4 * n := by
  induction n with
  | zero => rfl
  | succ n ih => rw [longT, List.length_append, ih]; simp; omega
theorem longT_count (n : Nat) : (longT n).count 36 = 2 * n := by
  induction n with
  | zero => rfl
  | succ n ih => rw [longT, List.count_append, ih]; simp; omega
theorem longT_run (v : ByteArray) (n : Nat) : (runB [⟨⟨#[86]⟩, v⟩] ⟨false, [], []⟩ (longT n)).i = false ∧ (expB [⟨⟨#[86]⟩, v⟩] (longT n)).length = n * (v.size + 1) := by
  induction n with
  | zero => exact ⟨rfl, by simp [expB, longT, runB]⟩
  | succ n ih =>
    obtain ⟨h1, h2⟩ := ih
    unfold expB at h2 ⊢
    rw [longT, runB_app]
    generalize runB [⟨⟨#[86]⟩, v⟩] ⟨false, [], []⟩ (longT n) = st at *
    obtain ⟨i, x, o⟩ := st
    simp only at h1 h2
    subst h1
    have hv : valB [⟨⟨#[86]⟩, v⟩] [86] = v.data.toList := by simp [valB]
    have e : runB [⟨⟨#[86]⟩, v⟩] ⟨false, x, o⟩ [36, 86, 36, 45] = ⟨false, [86], o ++ v.data.toList ++ [45]⟩ := by
      simp [runB, stepB, hv]
    rw [e]
    refine ⟨rfl, ?_⟩
    simp only [List.length_append, List.length_cons, List.length_nil, h2, sz_len]
    rw [Nat.add_mul]; omega
theorem longE (v : ByteArray) (n : Nat) (hn : n ≤ 39) : expE [⟨⟨#[86]⟩, v⟩] (longT n) = if 65536 < n * (v.size + 1) then 2 else 0 := by
  unfold expE
  rw [if_neg (by rw [longT_len]; omega), if_neg (by rw [longT_count]; omega), (longT_run v n).2]
set_option maxRecDepth 100000 in
set_option maxHeartbeats 8000000 in
theorem long_walk (n many : Int) (w : World) (hg : ErrType w) (hm : MaxL w) :
    Calls Tryd.prog 4 #[.int .i64 n, .int .i64 many] w fun y w' => y = .returned (.bool true) ∧ Below w.heap.size w w' := by
  have HG := Lib.hid hg
  have HM := Lib.hid hm
  clear hg hm
  obtain ⟨x0, x1⟩ := u64m_bd n 5000 (by omega)
  obtain ⟨y0, y1⟩ := u64m_bd many 40 (by omega)
  obtain ⟨X, hX⟩ : ∃ X : Nat, (IntKind.u64.wrap n).tmod 5000 = (X : Int) := ⟨_, (Int.toNat_of_nonneg x0).symm⟩
  obtain ⟨m, hY⟩ : ∃ m : Nat, (IntKind.u64.wrap many).tmod 40 = (m : Int) := ⟨_, (Int.toNat_of_nonneg y0).symm⟩
  rw [hX] at x0 x1
  rw [hY] at y0 y1
  have hX5 : X < 5000 := by omega
  have hm40 : m < 40 := by omega
  clear x0 x1 y0 y1
  go_enter Tryd.func4, Tryd.ntmps4
  go_upto_region 3 with (fail)
  have hk : (1 : Int) + (X : Int) = ((X + 1 : Nat) : Int) := by omega
  rw [hk]
  obtain ⟨K, hK⟩ : ∃ K, X + 1 = K := ⟨_, rfl⟩
  rw [hK]
  have hK1 : 1 ≤ K ∧ K ≤ 5000 := by omega
  have HK := Lib.hid hK1
  clear hX hk hK hX5 hK1
  go_loopw [6] (fun vv wr => ∃ vb : ByteArray, vv = .string vb ∧ vb.size ≤ K ∧ wr = w) (fun vv _ => K - (strOf vv).size)
  case atStart => exact ⟨⟨#[]⟩, rfl, Nat.zero_le _, rfl⟩
  case round =>
    obtain ⟨vb, rfl, hvb, rfl⟩ := hrel
    have hK5 := HK.out.2
    by_cases h64 : vb.size + 64 ≤ K
    · have h64' : (vb.size : Int) + 64 ≤ (K : Int) := by omega
      go_wp2_with (fail)
      go_roundw
      case rel =>
        refine ⟨_, rfl, ?_, by first | rfl | trivial⟩
        rw [ByteArray.size_append]
        exact h64
      case measure =>
        simp only [strOf, ByteArray.size_append]
        show K - (vb.size + 64) < K - vb.size
        omega
    · have h64' : ¬ (vb.size : Int) + 64 ≤ (K : Int) := by omega
      go_upto_region 5 with (fail)
      go_loopw [6] (fun vv wr2 => ∃ vb : ByteArray, vv = .string vb ∧ vb.size ≤ K ∧ wr2 = wr) (fun vv _ => K - (strOf vv).size)
      case atStart => exact ⟨vb, rfl, hvb, rfl⟩
      case round =>
        clear h64 h64' hvb
        obtain ⟨va, rfl, hva, rfl⟩ := hrel
        by_cases hlt : va.size < K
        · have hlt' : (va.size : Int) < (K : Int) := by omega
          go_wp2_with (fail)
          go_roundw
          case rel =>
            refine ⟨_, rfl, ?_, by first | rfl | trivial⟩
            rw [ByteArray.size_append]
            exact hlt
          case measure =>
            simp only [strOf, ByteArray.size_append]
            show K - (va.size + 1) < K - va.size
            omega
        · have hlt' : ¬ (va.size : Int) < (K : Int) := by omega
          have HVA := Lib.hid (show va.size = K by omega)
          go_upto_region 9 with (fail)
          clear hlt hlt' hva
          go_loopw [7, 8] (fun sv iv wr2 => ∃ (sb : ByteArray) (i : Nat), sv = .string sb ∧ iv = .int .i64 i ∧ i ≤ m ∧ sb.data.toList = longT i ∧ wr2 = wr) (fun _ iv _ => m - (intOf iv).toNat)
          case atStart => exact ⟨⟨#[]⟩, 0, rfl, rfl, Nat.zero_le _, rfl, rfl⟩
          case round =>
            obtain ⟨sb, i, rfl, rfl, hi, hsb, rfl⟩ := hrel
            have HSB := Lib.hid hsb
            have i0 : (0 : Int) ≤ i := by omega
            clear hsb
            by_cases him : i < m
            · have him' : (i : Int) < (m : Int) := by omega
              have hsbs : sb.size ≤ 160 := by rw [← sz_len, HSB.out, longT_len]; omega
              go_wp2_with (fail)
              go_roundw
              case rel =>
                refine ⟨_, i + 1, rfl, by go_num, by omega, ?_, by first | rfl | trivial⟩
                rw [app_data, HSB.out]; rfl
              case measure => simp [intOf]; omega
            · obtain rfl : i = m := by omega
              have him' : ¬ (i : Int) < (i : Int) := by omega
              have B1 := below_al (Below.refl wr.heap.size wr) (.cells #[.string ⟨#[86]⟩, .string va] 37)
              have hB := Blk.new wr 37 #[.string ⟨#[86]⟩, .string va]
              obtain ⟨ml, hm1⟩ := HM.out.below B1
              have hsz : sb.size = 4 * i := by rw [← sz_len, HSB.out, longT_len]
              have HR : RdM (wr.alloc (.cells #[.string ⟨#[86]⟩, .string va] 37)) (.slice (some ⟨wr.heap.size, 0, none⟩) 1 1) (wr.alloc (.cells #[.string ⟨#[86]⟩, .string va] 37)).heap.size [⟨⟨#[86]⟩, va⟩] :=
                .inr ⟨_, 0, 1, rfl, hB.lt, fun j hj => by
                  obtain rfl : j = 0 := by simpa using hj
                  exact ⟨by rw [hB.cell]; rfl, by rw [hB.cell]; rfl⟩⟩
              have EX := Lib.hid (expand_walk sb _ [⟨⟨#[86]⟩, va⟩] _ ml hm1 HR (by simp) (by omega))
              have HE := Lib.hid (longE va i (by omega))
              have HLN := Lib.hid (longT_run va i).2
              have BH := Lib.hid B1
              have HG1 := Lib.hid (HG.out.below B1)
              have HM1 := Lib.hid (HM.out.below B1)
              obtain ⟨P, hP⟩ : ∃ P : Nat, i * (K + 1) = P := ⟨_, rfl⟩
              have hP1 : (i : Int) * ((K : Int) + 1) = (P : Int) := by rw [← hP]; push_cast; rfl
              have hPb : P ≤ 39 * 5001 := by rw [← hP]; exact Nat.mul_le_mul (by omega) (by omega)
              have HP := Lib.hid hP
              have hw1 : IntKind.i64.wrap (P : Int) = (P : Int) := by rw [IntKind.wrap_i64]; omega
              clear B1 hB hm1 HR hsz HG HM hP
              go_wp2_with (fail)
              refine EX.out.mono ?_
              rintro y w1 ⟨⟨z, rfl, hz⟩, B2⟩
              have BH2 := Lib.hid (below_trans BH.out B2)
              have HG2 := Lib.hid (HG1.out.below B2)
              have HM2 := Lib.hid (HM1.out.below B2)
              rw [HSB.out] at hz
              rw [HSB.out]
              have hee := HE.out
              have hln := HLN.out
              rw [HVA.out, HP.out] at hee hln
              have HZ := Lib.hid hz
              have HLL := Lib.hid hln
              clear EX BH B2 HG1 HM1 hz hln
              by_cases hbig : 65536 < P
              · have hbig' : (65536 : Int) < (P : Int) := by omega
                rw [if_pos hbig] at hee
                obtain rfl : z = ⟨#[]⟩ := by
                  obtain ⟨⟨l⟩⟩ := z
                  have h := HZ.out
                  unfold expO at h
                  rw [hee, if_neg (by decide)] at h
                  simp at h; rw [h]
                rw [hee]
                simp only [errE2]
                clear hee hbig
                go_wp2_with (fail)
                refine (num_hit 2 _ HG2.out).mono ?_
                rintro y w2 ⟨rfl, B3⟩
                have HM3 := Lib.hid (HM2.out.below B3)
                have BH3 := Lib.hid (below_trans BH2.out B3)
                clear B3
                go_wp2_with (fail)
                refine (sure_walk _ HM3.out).mono ?_
                rintro y w3 ⟨rfl, B4⟩
                have B5 := below_trans BH3.out B4
                go_wp2
                go_ret
                exact ⟨rfl, B5⟩
              · have hbig' : ¬ (65536 : Int) < (P : Int) := by omega
                rw [if_neg hbig] at hee
                have hzs : z.size = P := by
                  rw [← sz_len, HZ.out]
                  unfold expO
                  rw [hee, if_pos rfl]; exact HLL.out
                have hzs' : ((z.size : Int) == (P : Int)) = true := by rw [hzs]; simp
                have HZS := Lib.hid hzs
                rw [hee]
                simp only [errE0]
                clear hee hbig hzs
                go_wp2_with (fail)
                refine (sure_walk _ HM2.out).mono ?_
                rintro y w3 ⟨rfl, B4⟩
                have B5 := below_trans BH2.out B4
                go_wp2
                go_ret
                exact ⟨rfl, B5⟩
end Go.Proofs.YtacajmknlknjkaaDoor
