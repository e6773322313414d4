/- The law LexJoined, walked. -/
import Derived.Test.YtfioigbopagogaaDoorD3
import Derived.Test.YtfioigbopagogaaDoorP5
namespace Go.Proofs.YtfioigbopagogaaDoor
open Go.RowKit
set_option linter.unusedVariables false
def lastB : ByteArray := ⟨#[108, 97, 115, 116]⟩
/-- The joined text, piece by piece. -/
def jF (L : List ByteArray) (i : Nat) : List UInt8 := if i < L.length then mF ((datas L).take i) else mF ((datas L).take (L.length - 1)) ++ (L.getD (L.length - 1) ByteArray.empty).data.toList
theorem jF_succ {L : List ByteArray} {i : Nat} (h : i < L.length) : jF L (i + 1) = jF L i ++ (L.getD i ByteArray.empty).data.toList ++ if i + 1 < L.length then [92, 10] else [] := by
  unfold jF
  rw [if_pos h]
  by_cases h1 : i + 1 < L.length
  · rw [if_pos h1, if_pos h1, datas_take h, mF_snoc]; simp
  · rw [if_neg h1, if_neg h1, show L.length - 1 = i by omega]; simp
/-- Both answers of LexJoined. -/
def BothJ (k n len : Nat) (LL LM : List Ln) : Prop :=
  LL.length = k + 1 ∧ LM.length = k + 1 ∧ (∀ i, i < k + 1 → (LM.getD i ln0).t = (LL.getD i ln0).t) ∧ (LM.getD k ln0).t = lastB ∧ (LM.getD k ln0).a = n + len + 1 ∧ (k = 0 ∨ k = 1 ∧ (LM.getD 0 ln0).a = n + 1)
theorem both_of {n m len : Nat} {x : List UInt8} {LL LM : List Ln} (h1 : outF LL = oneF n x ++ [(m, lastT)]) (h2 : outF LM = oneF n x ++ [(n + len + 1, lastT)]) : ∃ k, BothJ k n len LL LM := by
  by_cases h : saidF x = []
  · have e : oneF n x = [] := if_pos h
    rw [e] at h1 h2
    obtain rfl : LL = [⟨m, lastB⟩] := outF_inj h1
    obtain rfl : LM = [⟨n + len + 1, lastB⟩] := outF_inj h2
    exact ⟨0, rfl, rfl, fun i hi => (by have e : i = 0 := Nat.lt_one_iff.1 hi; rw [e]; rfl), rfl, rfl, .inl rfl⟩
  · have e : oneF n x = [(n + 1, saidF x)] := if_neg h
    rw [e] at h1 h2
    obtain rfl : LL = [⟨n + 1, ⟨(saidF x).toArray⟩⟩, ⟨m, lastB⟩] := outF_inj (by rw [h1]; simp [outF]; rfl)
    obtain rfl : LM = [⟨n + 1, ⟨(saidF x).toArray⟩⟩, ⟨n + len + 1, lastB⟩] := outF_inj (by rw [h2]; simp [outF]; rfl)
    refine ⟨1, rfl, rfl, fun i hi => ?_, rfl, rfl, .inr ⟨rfl, rfl⟩⟩
    match i with
    | 0 => rfl
    | 1 => rfl
    | i + 2 => omega
set_option maxRecDepth 100000 in
set_option maxHeartbeats 8000000 in
theorem joined_walk (v : Value) (L : List ByteArray) (ahead : Int) (w : World) (hm : MaxL w) (hL : RdT w v w.heap.size L) (hl : L.length ≤ 9223372036854775807) :
    Calls Tryd.prog 4 #[v, .int .i64 ahead] w fun y w' => y = .returned (.bool true) ∧ Below w.heap.size w w' := by
  obtain ⟨A, cap, rfl⟩ := hL.form
  have HI := Lib.hid hL
  have HM := Lib.hid hm
  clear hL hm
  have SW := Lib.hid (sure_walk w HM.out)
  by_cases h00 : L.length = 0
  · have h00' : ((L.length : Int) == 0) = true := by rw [h00]; rfl
    clear h00
    go_enter Tryd.func4, Tryd.ntmps4
    go_wp2_with (fail)
    refine SW.out.mono ?_
    rintro y w2 ⟨rfl, B2⟩
    go_wp2
    go_ret
    exact ⟨rfl, B2⟩
  have h00' : ((L.length : Int) == 0) = false := by rw [beq_eq_false_iff_ne]; omega
  by_cases h1 : 20 < L.length
  · have h1' : (20 : Int) < (L.length : Int) := by omega
    clear h00
    go_enter Tryd.func4, Tryd.ntmps4
    go_wp2_with (fail)
    refine SW.out.mono ?_
    rintro y w2 ⟨rfl, B2⟩
    go_wp2
    go_ret
    exact ⟨rfl, B2⟩
  have h1' : ¬ (20 : Int) < (L.length : Int) := by omega
  have HP0 := Lib.hid (show 0 < L.length by omega)
  clear h00
  obtain ⟨x0, x1⟩ := u64m_bd ahead 5 (by omega)
  obtain ⟨n, hX⟩ : ∃ X : Nat, (IntKind.u64.wrap ahead).tmod 5 = (X : Int) := ⟨_, (Int.toNat_of_nonneg x0).symm⟩
  rw [hX] at x0 x1
  have hn5 : n < 5 := by omega
  clear x0 x1
  go_enter Tryd.func4, Tryd.ntmps4
  go_upto_region 5 with (fail)
  go_loopw [5, 6, 7, 8] (fun sv tv iv _ wr => ∃ (sb tb : ByteArray) (i : Nat), sv = .string sb ∧ tv = .string tb ∧ iv = .int .i64 i ∧ i ≤ L.length ∧ sb.data.toList = ((datas L).take i).flatten ∧ tb.data.toList = jF L i ∧ tb.size ≤ 102 * i ∧ (∀ l ∈ (datas L).take i, Good l ∧ l.length ≤ 100) ∧ wr = w) (fun _ _ iv _ _ => L.length - (intOf iv).toNat)
  case atStart => exact ⟨⟨#[]⟩, ⟨#[]⟩, 0, rfl, rfl, rfl, Nat.zero_le _, rfl, (by unfold jF; rw [if_pos HP0.out]; rfl), Nat.le_refl _, (fun l hl => by simp at hl), rfl⟩
  case round =>
    obtain ⟨sb, tb, i, rfl, rfl, rfl, hi, hsb, htb, htz, hgd, rfl⟩ := hrel
    have HSB := Lib.hid hsb
    have HTB := Lib.hid htb
    have HGD := Lib.hid hgd
    clear hsb htb hgd
    have i0 : (0 : Int) ≤ i := by omega
    have hsz : sb.size ≤ 2000 := by
      have := flat_len ((datas L).take i) (fun l hl => (HGD.out l hl).2)
      rw [← HSB.out, sz_len, List.length_take, datas_len] at this; omega
    by_cases hlt : i < L.length
    · have hlt' : (i : Int) < (L.length : Int) := by omega
      obtain ⟨g, o, rfl, hc⟩ := HI.out.cell hlt
      have zg := World.block_lt_of_cell? _ _ hc
      have HGS := Lib.hid (fun h1 h2 h3 => good_snoc hlt HGD.out h1 h2 h3)
      have HDT := Lib.hid (datas_take hlt)
      have HJS := Lib.hid (jF_succ hlt)
      generalize L.getD i ByteArray.empty = x at *
      by_cases hx : 100 < x.size
      · have hx' : (100 : Int) < (x.size : Int) := by omega
        go_wp2_with (fail)
        refine SW.out.mono ?_
        rintro y w2 ⟨rfl, B2⟩
        go_wp2
        go_ret
        exact ⟨rfl, B2⟩
      · have hx' : ¬ (100 : Int) < (x.size : Int) := by omega
        go_upto_region 10 with (fail)
        go_loopw [8] (fun kv wr2 => ∃ k : Nat, kv = .int .i64 k ∧ k ≤ x.size ∧ (x.data.toList.take k).count 10 = 0 ∧ (x.data.toList.take k).count 92 = 0 ∧ wr2 = wr) (fun kv _ => x.size - (intOf kv).toNat)
        case atStart => exact ⟨0, rfl, Nat.zero_le _, rfl, rfl, rfl⟩
        case round =>
          obtain ⟨k, rfl, hk, h10, h92, rfl⟩ := hrel
          have k0 : (0 : Int) ≤ k := by omega
          by_cases hkx : k < x.size
          · have hkx' : (k : Int) < (x.size : Int) := by omega
            have HB := Lib.hid (byte_at x k hkx)
            have H10 := Lib.hid h10
            have H92 := Lib.hid h92
            clear h10 h92
            obtain ⟨c, hc'⟩ : ∃ c, x[k] = c := ⟨_, rfl⟩
            rw [hc'] at HB
            by_cases e10 : c = 10
            · have hd : ((c.toNat : Int) == 10) = true := by have := byte_is c 10; rw [decide_eq_true e10] at this; exact this
              clear e10
              go_wp2_with (fail)
              refine SW.out.mono ?_
              rintro y w2 ⟨rfl, B2⟩
              go_wp2
              go_ret
              exact ⟨rfl, B2⟩
            · have hd : ((c.toNat : Int) == 10) = false := by have := byte_is c 10; rw [decide_eq_false e10] at this; exact this
              by_cases e92 : c = 92
              · have hd2 : ((c.toNat : Int) == 92) = true := by have := byte_is c 92; rw [decide_eq_true e92] at this; exact this
                clear e10 e92
                go_wp2_with (fail)
                refine SW.out.mono ?_
                rintro y w2 ⟨rfl, B2⟩
                go_wp2
                go_ret
                exact ⟨rfl, B2⟩
              · have hd2 : ((c.toNat : Int) == 92) = false := by have := byte_is c 92; rw [decide_eq_false e92] at this; exact this
                have E1 := Lib.hid e10
                have E2 := Lib.hid e92
                clear e10 e92
                go_wp2_with (fail)
                go_roundw
                case rel =>
                  refine ⟨k + 1, by go_num, by omega, ?_, ?_, by first | rfl | trivial⟩
                  · rw [HB.out, List.count_append, H10.out, List.count_cons_of_ne (by have := E1.out; simpa using this)]; rfl
                  · rw [HB.out, List.count_append, H92.out, List.count_cons_of_ne (by have := E2.out; simpa using this)]; rfl
                case measure => simp [intOf]; omega
          · obtain rfl : k = x.size := by omega
            rw [List.take_of_length_le (by rw [sz_len]; exact Nat.le_refl _)] at h10 h92
            have HG2 := Lib.hid (HGS.out h10 h92 (by omega))
            clear h10 h92 HGS
            obtain ⟨s1, hs1⟩ : ∃ z, sb ++ x = z := ⟨_, rfl⟩
            obtain ⟨t1, ht1⟩ : ∃ z, tb ++ x = z := ⟨_, rfl⟩
            have zs1 : s1.size ≤ 2100 := by rw [← hs1, ByteArray.size_append]; omega
            have zt1 : t1.size ≤ 102 * i + 100 := by rw [← ht1, ByteArray.size_append]; omega
            have HS1 := Lib.hid (show s1.data.toList = ((datas L).take (i + 1)).flatten by
              rw [HDT.out, List.flatten_append, ← HSB.out, ← hs1, app_data]; simp)
            have HT1 := Lib.hid (show t1.data.toList = jF L i ++ x.data.toList by rw [← ht1, app_data, HTB.out])
            clear HSB HTB HDT
            by_cases hlast : i + 1 < L.length
            · have hlast' : (i : Int) < (L.length : Int) - 1 := by omega
              have hj := HJS.out
              rw [if_pos hlast, ← HT1.out] at hj
              obtain ⟨t2, ht2⟩ : ∃ z, t1 ++ (⟨#[92, 10]⟩ : ByteArray) = z := ⟨_, rfl⟩
              have zt2 : t2.size ≤ 102 * (i + 1) := by rw [← ht2, ByteArray.size_append]; show t1.size + 2 ≤ _; omega
              have HT2 := Lib.hid (show t2.data.toList = jF L (i + 1) by rw [hj, ← ht2, app_data])
              clear hj HT1 HJS hlast
              go_wp2_with (fail)
              go_roundw
              case rel => exact ⟨s1, t2, i + 1, rfl, rfl, by go_num, by omega, HS1.out, HT2.out, by omega, HG2.out, by first | rfl | trivial⟩
              case measure => simp [intOf]; omega
            · have hlast' : ¬ (i : Int) < (L.length : Int) - 1 := by omega
              have hj := HJS.out
              rw [if_neg hlast, ← HT1.out, List.append_nil] at hj
              have HT2 := Lib.hid hj.symm
              clear hj HT1 HJS hlast
              go_wp2_with (fail)
              go_roundw
              case rel => exact ⟨s1, t1, i + 1, rfl, rfl, by go_num, by omega, HS1.out, HT2.out, by omega, HG2.out, by first | rfl | trivial⟩
              case measure => simp [intOf]; omega
    · obtain rfl : i = L.length := by omega
      have hpre : L.length - 1 < L.length := by have := HP0.out; omega
      have hdl := datas_take hpre
      rw [show L.length - 1 + 1 = L.length by have := HP0.out; omega] at hdl
      have hjl : jF L L.length = mF ((datas L).take (L.length - 1)) ++ (L.getD (L.length - 1) ByteArray.empty).data.toList := by unfold jF; rw [if_neg (Nat.lt_irrefl _)]
      rw [hdl] at HSB HGD
      rw [hjl] at HTB
      have hlsl : ((datas L).take (L.length - 1)).length + 1 = L.length := by rw [List.length_take, datas_len]; omega
      generalize (datas L).take (L.length - 1) = ls at *
      generalize (L.getD (L.length - 1) ByteArray.empty).data.toList = z at *
      have hjj := joined_lines ls z n (fun l hl => HGD.out l (List.mem_append_left _ hl)) (HGD.out z (List.mem_append_right _ (List.mem_singleton_self z))) (by omega) (by omega)
      rw [show ls.flatten ++ z = sb.data.toList by rw [HSB.out]; simp, ← HTB.out, show n + ls.length + 2 = n + L.length + 1 by omega] at hjj
      have HJJ := Lib.hid hjj
      have hts : tb.size ≤ 2040 := by omega
      clear hjj HSB HTB HGD hdl hjl hlsl hpre htz HP0 HI SW hi hlt i0
      generalize L.length = len at *
      go_upto_region 21 with (fail)
      go_loopw [10, 11] (fun sv iv wr2 => ∃ (ab : ByteArray) (i : Nat), sv = .string ab ∧ iv = .int .i64 i ∧ i ≤ n ∧ ab.data.toList = List.replicate i 10 ∧ wr2 = wr) (fun _ iv _ => n - (intOf iv).toNat)
      case atStart => exact ⟨⟨#[]⟩, 0, rfl, rfl, Nat.zero_le _, rfl, rfl⟩
      case round =>
        obtain ⟨ab, i, rfl, rfl, hi, hab, rfl⟩ := hrel
        have HAB := Lib.hid hab
        have i0 : (0 : Int) ≤ i := by omega
        have habs : ab.size ≤ 5 := by rw [← sz_len, hab, List.length_replicate]; omega
        clear hab
        by_cases him : i < n
        · have him' : (i : Int) < (n : Int) := by omega
          go_wp2_with (fail)
          go_roundw
          case rel =>
            refine ⟨_, i + 1, rfl, by go_num, by omega, ?_, by first | rfl | trivial⟩
            rw [app_data, HAB.out]
            change List.replicate i 10 ++ List.replicate 1 10 = List.replicate (i + 1) 10
            rw [List.replicate_append_replicate]
          case measure => simp [intOf]; omega
        · obtain rfl : i = n := by omega
          have him' : ¬ (i : Int) < (i : Int) := by omega
          obtain ⟨s1, hs1⟩ : ∃ z, ab ++ sb = z := ⟨_, rfl⟩
          obtain ⟨s2, hs2⟩ : ∃ z, s1 ++ (⟨#[10, 108, 97, 115, 116]⟩ : ByteArray) = z := ⟨_, rfl⟩
          obtain ⟨t1, ht1⟩ : ∃ z, ab ++ tb = z := ⟨_, rfl⟩
          obtain ⟨t2, ht2⟩ : ∃ z, t1 ++ (⟨#[10, 108, 97, 115, 116]⟩ : ByteArray) = z := ⟨_, rfl⟩
          have zs1 : s1.size ≤ 2005 := by rw [← hs1, ByteArray.size_append]; omega
          have zs2 : s2.size ≤ 2010 := by rw [← hs2, ByteArray.size_append]; show s1.size + 5 ≤ 2010; omega
          have zt1 : t1.size ≤ 2045 := by rw [← ht1, ByteArray.size_append]; omega
          have zt2 : t2.size ≤ 2050 := by rw [← ht2, ByteArray.size_append]; show t1.size + 5 ≤ 2050; omega
          have HLA := Lib.hid (show linesF s2.data.toList = (⟨oneF i sb.data.toList ++ [(i + 2, lastT)], 0, 0⟩ : Res) by rw [← hs2, app_data, ← hs1, app_data, HAB.out]; exact HJJ.out.1)
          have HLB := Lib.hid (show linesF t2.data.toList = (⟨oneF i sb.data.toList ++ [(i + len + 1, lastT)], 0, 0⟩ : Res) by rw [← ht2, app_data, ← ht1, app_data, HAB.out]; exact HJJ.out.2)
          have LA := Lib.hid (lines_walk s2 wr HM.out (by omega))
          clear HJJ HAB
          go_wp2_with (fail)
          refine LA.out.mono ?_
          rintro y w1 ⟨⟨va, LL, rfl, hLa, hna, own⟩, B1⟩
          have HR := RdL.of_owns own rfl (Nat.le_refl w1.heap.size)
          obtain ⟨Aa, ca, rfl⟩ := HR.form
          have HRA := Lib.hid HR
          have HM1 := Lib.hid (HM.out.below B1)
          have BH1 := Lib.hid B1
          rw [HLA.out] at hLa ⊢
          have HLa := Lib.hid hLa
          clear own B1 HR LA HM hLa HLA
          dsimp only
          simp only [errE0]
          have LB := Lib.hid (lines_walk t2 w1 HM1.out (by omega))
          go_wp2_with (fail)
          refine LB.out.mono ?_
          rintro y w2 ⟨⟨vb, LM, rfl, hLb, hnb, own⟩, B2⟩
          have HR := RdL.of_owns own rfl (Nat.le_refl w2.heap.size)
          obtain ⟨Ab, cb, rfl⟩ := HR.form
          have HRB := Lib.hid HR
          have HRA2 := Lib.hid ((HRA.out.below B2 (Nat.le_refl _)).wider B2.size)
          have HM2 := Lib.hid (HM1.out.below B2)
          have BH2 := Lib.hid (below_trans BH1.out B2)
          rw [HLB.out] at hLb ⊢
          obtain ⟨k, ha, hb, heq, hlt, hla, hk0⟩ := both_of HLa.out hLb
          rw [ha, hb]
          have HEQ := Lib.hid heq
          have HLT := Lib.hid hlt
          have HLA2 := Lib.hid hla
          have HK0 := Lib.hid hk0
          have HHA := Lib.hid ha
          have HHB := Lib.hid hb
          have hk1 : k ≤ 1 := by rcases hk0 with h | h <;> omega
          have hpush : ((k + 1 : Nat) : Int) = (k : Int) + 1 := by omega
          have dln : (((k : Int) + 1) != ((k : Int) + 1)) = false := by simp
          have dl0 : (((k : Int) + 1) == 0) = false := by simp; omega
          clear own B2 HR LB HM1 HRA BH1 hLb HLa HLB heq hlt hla hk0 ha hb
          dsimp only
          simp only [errE0]
          go_upto_region 29 with (fail)
          go_loopw [18] (fun iv wr => ∃ i : Nat, iv = .int .i64 i ∧ i ≤ k + 1 ∧ Below w2.heap.size w2 wr) (fun iv _ => k + 1 - (intOf iv).toNat)
          case atStart => exact ⟨0, rfl, Nat.zero_le _, Below.refl _ _⟩
          case round =>
            obtain ⟨j, rfl, hj, bel⟩ := hrel
            have j0 : (0 : Int) ≤ j := by omega
            by_cases hlt : j < k + 1
            · have hlt' : (j : Int) < (k : Int) + 1 := by omega
              obtain ⟨ga, rfl, a0, a1⟩ := ((HRA2.out.below bel (Nat.le_refl _)).wider bel.size).cell (show j < LL.length by rw [HHA.out]; exact hlt)
              obtain ⟨gb, rfl, b0, b1⟩ := ((HRB.out.below bel (Nat.le_refl _)).wider bel.size).cell (show j < LM.length by rw [HHB.out]; exact hlt)
              rw [HEQ.out j hlt] at b1
              have za := World.block_lt_of_cell? _ _ a0
              have zb := World.block_lt_of_cell? _ _ b0
              generalize (LL.getD j ln0).t = x at *
              generalize (LL.getD j ln0).a = na at *
              generalize (LM.getD j ln0).a = nb at *
              have d1 : (x.toList != x.toList) = false := by simp
              have BELx := Lib.hid bel
              clear bel
              go_upto_region 31 with (fail)
              go_quiet (fail)
              have B2 := Lib.hid (below_drewN BELx.out nq)
              clear BELx a0 a1 b0 b1 d1 za zb
              go_wp2_with (fail)
              go_roundw
              case rel => exact ⟨j + 1, by go_num, by omega, B2.out⟩
              case measure => simp [intOf]; omega
            · have hlt' : ¬ (j : Int) < (k : Int) + 1 := by omega
              have HM3 := Lib.hid (HM2.out.below bel)
              have BH3 := Lib.hid (below_trans BH2.out bel)
              have SW3 := Lib.hid (sure_walk _ HM3.out)
              obtain ⟨gb, rfl, b0, b1⟩ := ((HRB.out.below bel (Nat.le_refl _)).wider bel.size).cell (show k < LM.length by rw [HHB.out]; omega)
              rw [HLT.out] at b1
              rw [HLA2.out, show ((i + len + 1 : Nat) : Int) = (i : Int) + (len : Int) + 1 by omega] at b0
              have zb := World.block_lt_of_cell? _ _ b0
              have dt : ((⟨#[108, 97, 115, 116]⟩ : ByteArray).toList == (⟨#[108, 97, 115, 116]⟩ : ByteArray).toList) = true := by simp
              have db : ((i : Int) + (len : Int) + 1 == (i : Int) + (len : Int) + 1) = true := by simp
              unfold lastB at b1
              go_upto_region 33 with (fail)
              rcases HK0.out with h0 | ⟨h0, h1⟩
              · subst h0
                clear bel hlt hlt' HEQ HLT HLA2 HK0
                go_wp2_with (fail)
                refine SW3.out.mono ?_
                rintro y w3 ⟨rfl, B3⟩
                have B4 := below_trans BH3.out B3
                go_wp2
                go_ret
                exact ⟨rfl, B4⟩
              · subst h0
                obtain ⟨gc, hgc, c0, c1⟩ := ((HRB.out.below bel (Nat.le_refl _)).wider bel.size).cell (show 0 < LM.length by rw [HHB.out]; omega)
                cases hgc
                rw [h1, show ((i + 1 : Nat) : Int) = (i : Int) + 1 by omega] at c0
                have dc : ((i : Int) + 1 == (i : Int) + 1) = true := by simp
                clear bel hlt hlt' HEQ HLT HLA2 HK0
                go_wp2_with (fail)
                refine SW3.out.mono ?_
                rintro y w3 ⟨rfl, B3⟩
                have B4 := below_trans BH3.out B3
                go_wp2
                go_ret
                exact ⟨rfl, B4⟩
end Go.Proofs.YtfioigbopagogaaDoor
