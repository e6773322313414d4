/- The law LexPlain, walked. -/
import Derived.Test.YtfioigbopagogaaDoorT1
import Derived.Test.YtfioigbopagogaaDoorD1
import Derived.Deep.QuietTactic
import Derived.BigQuiet
namespace Go.Proofs.YtfioigbopagogaaDoor
open Go.RowKit
set_option linter.unusedVariables false
theorem good_snoc {L : List ByteArray} {i : Nat} (h : i < L.length) (hg : ∀ l ∈ (datas L).take i, Good l ∧ l.length ≤ 100) (h1 : (L.getD i ByteArray.empty).data.toList.count 10 = 0) (h2 : (L.getD i ByteArray.empty).data.toList.count 92 = 0) (h3 : (L.getD i ByteArray.empty).size ≤ 100) :
    ∀ l ∈ (datas L).take (i + 1), Good l ∧ l.length ≤ 100 := by
  intro l hl
  rw [datas_take h] at hl
  rcases List.mem_append.1 hl with hl | hl
  · exact hg l hl
  · obtain rfl : l = (L.getD i ByteArray.empty).data.toList := by simpa using hl
    rw [← sz_len] at h3
    exact ⟨⟨h1, h2, by omega⟩, h3⟩
set_option maxRecDepth 100000 in
set_option maxHeartbeats 8000000 in
theorem plain_walk (v : Value) (L : List ByteArray) (w : World) (hm : MaxL w) (hL : RdT w v w.heap.size L) (hl : L.length ≤ 9223372036854775807) :
    Calls Tryd.prog 3 #[v] w fun y w' => y = .returned (.bool true) ∧ Below w.heap.size w w' := by
  obtain ⟨A, cap, rfl⟩ := hL.form
  have HI := Lib.hid hL
  have HM := Lib.hid hm
  clear hL hm
  have SW := Lib.hid (sure_walk w HM.out)
  by_cases h1 : 40 < L.length
  · have h1' : (40 : Int) < (L.length : Int) := by omega
    go_enter Tryd.func3, Tryd.ntmps3
    go_wp2_with (fail)
    refine SW.out.mono ?_
    rintro y w2 ⟨rfl, B2⟩
    go_wp2
    go_ret
    exact ⟨rfl, B2⟩
  have h1' : ¬ (40 : Int) < (L.length : Int) := by omega
  go_enter Tryd.func3, Tryd.ntmps3
  go_upto_region 5 with (fail)
  go_loopw [3, 4, 5, 6] (fun sv tv iv _ wr => ∃ (sb tb : ByteArray) (i : Nat), sv = .string sb ∧ tv = .string tb ∧ iv = .int .i64 i ∧ i ≤ L.length ∧ sb.data.toList = sF ((datas L).take i) ∧ tb.data.toList = tF ((datas L).take i) ∧ (∀ l ∈ (datas L).take i, Good l ∧ l.length ≤ 100) ∧ Below w.heap.size w wr) (fun _ _ iv _ _ => L.length - (intOf iv).toNat)
  case atStart => exact ⟨⟨#[]⟩, ⟨#[]⟩, 0, rfl, rfl, rfl, Nat.zero_le _, rfl, rfl, (fun l hl => by simp at hl), Below.refl _ _⟩
  case round =>
    obtain ⟨sb, tb, i, rfl, rfl, rfl, hi, hsb, htb, hgd, bel⟩ := hrel
    have BEL := Lib.hid bel
    have HMr := Lib.hid (HM.out.below bel)
    have SWr := Lib.hid (sure_walk wr HMr.out)
    have HSB := Lib.hid hsb
    have HTB := Lib.hid htb
    have HGD := Lib.hid hgd
    clear hsb htb hgd
    have i0 : (0 : Int) ≤ i := by omega
    have hsz : sb.size ≤ 4040 := by
      have := sF_len ((datas L).take i) (fun l hl => (HGD.out l hl).2)
      rw [← HSB.out, sz_len, List.length_take, datas_len] at this; omega
    have htz : tb.size ≤ 8480 := by
      have := tF_len ((datas L).take i) (fun l hl => (HGD.out l hl).2)
      rw [← HTB.out, sz_len, List.length_take, datas_len] at this; omega
    by_cases hlt : i < L.length
    · have hlt' : (i : Int) < (L.length : Int) := by omega
      obtain ⟨g, o, rfl, hc⟩ := ((HI.out.below bel (Nat.le_refl _)).wider bel.size).cell hlt
      clear bel
      have zg := World.block_lt_of_cell? _ _ hc
      have HGS := Lib.hid (fun h1 h2 h3 => good_snoc hlt HGD.out h1 h2 h3)
      have HDT := Lib.hid (datas_take hlt)
      generalize L.getD i ByteArray.empty = x at *
      by_cases hx : 100 < x.size
      · have hx' : (100 : Int) < (x.size : Int) := by omega
        go_wp2_with (fail)
        refine SWr.out.mono ?_
        rintro y w2 ⟨rfl, B2⟩
        replace B2 := below_trans BEL.out B2
        go_wp2
        go_ret
        exact ⟨rfl, B2⟩
      · have hx' : ¬ (100 : Int) < (x.size : Int) := by omega
        go_upto_region 10 with (fail)
        go_loopw [6] (fun kv wr2 => ∃ k : Nat, kv = .int .i64 k ∧ k ≤ x.size ∧ (x.data.toList.take k).count 10 = 0 ∧ (x.data.toList.take k).count 92 = 0 ∧ wr2 = wr) (fun kv _ => x.size - (intOf kv).toNat)
        case atStart => exact ⟨0, rfl, Nat.zero_le _, rfl, rfl, rfl⟩
        case round =>
          obtain ⟨k, rfl, hk, h10, h92, rfl⟩ := hrel
          have k0 : (0 : Int) ≤ k := by omega
          by_cases hkx : k < x.size
          · have hkx' : (k : Int) < (x.size : Int) := by omega
            have HB := Lib.hid (byte_at x k hkx)
            have H10 := Lib.hid h10
            have H92 := Lib.hid h92
            clear h10 h92
            obtain ⟨c, hc'⟩ : ∃ c, x[k] = c := ⟨_, rfl⟩
            rw [hc'] at HB
            by_cases e10 : c = 10
            · have hd : ((c.toNat : Int) == 10) = true := by have := byte_is c 10; rw [decide_eq_true e10] at this; exact this
              clear e10
              go_wp2_with (fail)
              refine SWr.out.mono ?_
              rintro y w2 ⟨rfl, B2⟩
              replace B2 := below_trans BEL.out B2
              go_wp2
              go_ret
              exact ⟨rfl, B2⟩
            · have hd : ((c.toNat : Int) == 10) = false := by have := byte_is c 10; rw [decide_eq_false e10] at this; exact this
              by_cases e92 : c = 92
              · have hd2 : ((c.toNat : Int) == 92) = true := by have := byte_is c 92; rw [decide_eq_true e92] at this; exact this
                clear e10 e92
                go_wp2_with (fail)
                refine SWr.out.mono ?_
                rintro y w2 ⟨rfl, B2⟩
                replace B2 := below_trans BEL.out B2
                go_wp2
                go_ret
                exact ⟨rfl, B2⟩
              · have hd2 : ((c.toNat : Int) == 92) = false := by have := byte_is c 92; rw [decide_eq_false e92] at this; exact this
                have E1 := Lib.hid e10
                have E2 := Lib.hid e92
                clear e10 e92
                go_wp2_with (fail)
                go_roundw
                case rel =>
                  refine ⟨k + 1, by go_num, by omega, ?_, ?_, by first | rfl | trivial⟩
                  · rw [HB.out, List.count_append, H10.out, List.count_cons_of_ne (by have := E1.out; simpa using this)]; rfl
                  · rw [HB.out, List.count_append, H92.out, List.count_cons_of_ne (by have := E2.out; simpa using this)]; rfl
                case measure => simp [intOf]; omega
          · obtain rfl : k = x.size := by omega
            rw [List.take_of_length_le (by rw [sz_len]; exact Nat.le_refl _)] at h10 h92
            have HG2 := Lib.hid (HGS.out h10 h92 (by omega))
            clear h10 h92 HGS
            obtain ⟨s1, hs1⟩ : ∃ z, sb ++ x = z := ⟨_, rfl⟩
            obtain ⟨s2, hs2⟩ : ∃ z, s1 ++ (⟨#[10]⟩ : ByteArray) = z := ⟨_, rfl⟩
            obtain ⟨t1, ht1⟩ : ∃ z, tb ++ (⟨#[32, 9]⟩ : ByteArray) = z := ⟨_, rfl⟩
            obtain ⟨t2, ht2⟩ : ∃ z, t1 ++ x = z := ⟨_, rfl⟩
            obtain ⟨t3, ht3⟩ : ∃ z, t2 ++ (⟨#[32, 13, 59]⟩ : ByteArray) = z := ⟨_, rfl⟩
            obtain ⟨t4, ht4⟩ : ∃ z, t3 ++ x = z := ⟨_, rfl⟩
            obtain ⟨t5, ht5⟩ : ∃ z, t4 ++ (⟨#[10, 32, 10, 35, 32, 120, 10]⟩ : ByteArray) = z := ⟨_, rfl⟩
            have zs1 : s1.size ≤ 4140 := by rw [← hs1, ByteArray.size_append]; omega
            have zs2 : s2.size ≤ 4141 := by rw [← hs2, ByteArray.size_append]; show s1.size + 1 ≤ 4141; omega
            have zt1 : t1.size ≤ 8482 := by rw [← ht1, ByteArray.size_append]; show tb.size + 2 ≤ 8482; omega
            have zt2 : t2.size ≤ 8582 := by rw [← ht2, ByteArray.size_append]; omega
            have zt3 : t3.size ≤ 8585 := by rw [← ht3, ByteArray.size_append]; show t2.size + 3 ≤ 8585; omega
            have zt4 : t4.size ≤ 8685 := by rw [← ht4, ByteArray.size_append]; omega
            have zt5 : t5.size ≤ 8692 := by rw [← ht5, ByteArray.size_append]; show t4.size + 7 ≤ 8692; omega
            have HS2 := Lib.hid (show s2.data.toList = sF ((datas L).take (i + 1)) by
              rw [HDT.out, sF_snoc, ← HSB.out, ← hs2, app_data, ← hs1, app_data]; simp)
            have HT5 := Lib.hid (show t5.data.toList = tF ((datas L).take (i + 1)) by
              rw [HDT.out, tF_snoc, ← HTB.out, ← ht5, app_data, ← ht4, app_data, ← ht3, app_data, ← ht2, app_data, ← ht1, app_data]; simp [plainX])
            clear HSB HTB HDT
            go_upto_region 15 with (fail)
            go_quiet (fail)
            have BQ := Lib.hid (below_drewN BEL.out nq)
            go_wp2_with (fail)
            go_roundw
            case rel => exact ⟨s2, t5, i + 1, rfl, rfl, by go_num, by omega, HS2.out, HT5.out, HG2.out, BQ.out⟩
            case measure => simp [intOf]; omega
    · obtain rfl : i = L.length := by omega
      rw [List.take_of_length_le (by rw [datas_len]; exact Nat.le_refl _)] at HSB HTB HGD
      obtain ⟨hla, hlb⟩ := plain_lines (datas L) HGD.out (by rw [datas_len]; omega)
      rw [← HSB.out] at hla
      rw [← HTB.out] at hlb
      have HLA := Lib.hid hla
      have HLB := Lib.hid hlb
      have HIB := Lib.hid (items_le (datas L) 1 1)
      have HDL := Lib.hid (datas_len L)
      generalize itemsF 1 1 (datas L) = I at *
      have LA := Lib.hid (lines_walk sb wr HMr.out (by omega))
      clear hla hlb HSB HTB HGD HI SW SWr bel
      go_wp2_with (fail)
      refine LA.out.mono ?_
      rintro y w1 ⟨⟨va, LL, rfl, hLa, hna, own⟩, B1⟩
      have HR := RdL.of_owns own rfl (Nat.le_refl w1.heap.size)
      obtain ⟨Aa, ca, rfl⟩ := HR.form
      have HRA := Lib.hid HR
      have HM1 := Lib.hid (HMr.out.below B1)
      have BH1 := Lib.hid (below_trans BEL.out B1)
      rw [HLA.out] at hLa ⊢
      have HLa := Lib.hid hLa
      clear own B1 HR LA HM HMr hLa BEL
      dsimp only
      simp only [errE0]
      have LB := Lib.hid (lines_walk tb w1 HM1.out (by omega))
      go_wp2_with (fail)
      refine LB.out.mono ?_
      rintro y w2 ⟨⟨vb, LM, rfl, hLb, hnb, own⟩, B2⟩
      have HR := RdL.of_owns own rfl (Nat.le_refl w2.heap.size)
      obtain ⟨Ab, cb, rfl⟩ := HR.form
      have HRB := Lib.hid HR
      have HRA2 := Lib.hid ((HRA.out.below B2 (Nat.le_refl _)).wider B2.size)
      have HM2 := Lib.hid (HM1.out.below B2)
      have BH2 := Lib.hid (below_trans BH1.out B2)
      rw [HLB.out] at hLb ⊢
      have hln : LM.length = LL.length := by
        have e1 := congrArg List.length hLb
        have e2 := congrArg List.length HLa.out
        simp [outF] at e1 e2; omega
      have HEQ := Lib.hid (show ∀ i, i < LL.length → (LM.getD i ln0).t = (LL.getD i ln0).t ∧ (LM.getD i ln0).a = 3 * (LL.getD i ln0).a - 2 ∧ 1 ≤ (LL.getD i ln0).a ∧ (LL.getD i ln0).a ≤ 41 by
        intro i hi
        have hi2 : i < LM.length := by omega
        have e1 : (outF LM)[i]? = ((outF LL).map fun x => (3 * x.1 - 2, x.2))[i]? := by rw [hLb, HLa.out]
        have e2 : ((LL.getD i ln0).a, (LL.getD i ln0).t.data.toList) ∈ I := by
          rw [← HLa.out]
          refine List.mem_map.2 ⟨LL.getD i ln0, ?_, rfl⟩
          rw [List.getD_eq_getElem?_getD, List.getElem?_eq_getElem hi]
          exact List.getElem_mem hi
        have e3 := HIB.out _ e2
        rw [HDL.out] at e3
        unfold outF at e1
        rw [List.getElem?_map, List.getElem?_map, List.getElem?_map, List.getElem?_eq_getElem hi2, List.getElem?_eq_getElem hi] at e1
        rw [List.getD_eq_getElem?_getD, List.getElem?_eq_getElem hi2, List.getD_eq_getElem?_getD, List.getElem?_eq_getElem hi]
        rw [List.getD_eq_getElem?_getD, List.getElem?_eq_getElem hi] at e3
        simp at e1 e3 ⊢
        exact ⟨ba_inj (congrArg Array.toList e1.2), e1.1, by omega, by omega⟩)
      have HLN := Lib.hid hln
      have dln : ((LL.length : Int) != (LM.length : Int)) = false := by rw [hln]; simp
      clear own B2 HR LB HM1 HRA BH1 hLb hln HLa HLA HLB HIB HDL
      dsimp only
      simp only [errE0]
      go_upto_region 21 with (fail)
      go_loopw [13] (fun iv wr => ∃ i : Nat, iv = .int .i64 i ∧ i ≤ LL.length ∧ Below w2.heap.size w2 wr) (fun iv _ => LL.length - (intOf iv).toNat)
      case atStart => exact ⟨0, rfl, Nat.zero_le _, Below.refl _ _⟩
      case round =>
        obtain ⟨i, rfl, hi, bel⟩ := hrel
        have i0 : (0 : Int) ≤ i := by omega
        by_cases hlt : i < LL.length
        · have hlt' : (i : Int) < (LL.length : Int) := by omega
          have hlm : i < LM.length := by have := HLN.out; omega
          obtain ⟨ga, rfl, a0, a1⟩ := ((HRA2.out.below bel (Nat.le_refl _)).wider bel.size).cell hlt
          obtain ⟨gb, hgb, b0, b1⟩ := ((HRB.out.below bel (Nat.le_refl _)).wider bel.size).cell hlm
          obtain ⟨q1, q2, q3, q4⟩ := HEQ.out i hlt
          cases hgb
          rw [q1] at b1
          rw [q2] at b0
          have za := World.block_lt_of_cell? _ _ a0
          have zb := World.block_lt_of_cell? _ _ b0
          generalize (LL.getD i ln0).t = x at *
          generalize (LL.getD i ln0).a = n at *
          have e2 : ((3 * n - 2 : Nat) : Int) = 3 * (n : Int) - 2 := by omega
          rw [e2] at b0
          have d1 : (x.toList != x.toList) = false := by simp
          have d2 : ((3 * (n : Int) - 2) != (3 * (n : Int) - 2)) = false := by simp
          have BELx := Lib.hid bel
          clear bel q1 q2 e2
          go_upto_region 23 with (fail)
          go_quiet (fail)
          have B2 := Lib.hid (below_drewN BELx.out nq)
          clear BELx a0 a1 b0 b1 d1 d2 za zb
          go_wp2_with (fail)
          go_roundw
          case rel => exact ⟨i + 1, by go_num, by omega, B2.out⟩
          case measure => simp [intOf]; omega
        · obtain rfl : i = LL.length := by omega
          have HM3 := Lib.hid (HM2.out.below bel)
          have BH3 := Lib.hid (below_trans BH2.out bel)
          clear bel
          go_wp2_with (fail)
          refine (sure_walk _ HM3.out).mono ?_
          rintro y w3 ⟨rfl, B3⟩
          have B4 := below_trans BH3.out B3
          go_wp2
          go_ret
          exact ⟨rfl, B4⟩
end Go.Proofs.YtfioigbopagogaaDoor
