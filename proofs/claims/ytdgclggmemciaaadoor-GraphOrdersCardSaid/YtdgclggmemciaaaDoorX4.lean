/- The law GraphOrders, walked. -/
import Derived.Test.YtdgclggmemciaaaDoorB1
namespace Go.Proofs.YtdgclggmemciaaaDoor
open Go.RowKit
set_option linter.unusedSimpArgs false
set_option linter.unusedVariables false
theorem LoopIs.uniq {E : Ways} {n k k2 : Nat} {is is2 : Bool} (h : LoopIs E n k is) (h2 : LoopIs E n k2 is2) : k2 = k ∧ is2 = is := by
  have := LoopIs.turn h (k2 := k2) (is2 := is2) (by
    rcases h2 with ⟨b1, b2, b3, b4⟩ | ⟨b1, b2, b3⟩
    · exact .inl ⟨b1, b2, cyc_turn.2 b3, fun j hj c => b4 j hj (cyc_turn.1 c)⟩
    · exact .inr ⟨b1, b2, fun j hj c => b3 j hj (cyc_turn.1 c)⟩)
  exact this
theorem LoopIs.acyc {E : Ways} {n k : Nat} {is : Bool} (h : LoopIs E n k is) (hE : ∀ e, e ∈ E → e.1 < n ∧ e.2 < n) : is = false ↔ Acyc E := by
  rcases h with ⟨a1, a2, a3, a4⟩ | ⟨a1, a2, a3⟩
  · rw [a1]
    exact ⟨fun h => Bool.noConfusion h, fun h => absurd a3 (h k)⟩
  · rw [a1]
    exact ⟨fun _ x hx => a3 x (hx.lt hE) hx, fun _ => rfl⟩
theorem range_natsA (n : Nat) (f g : Nat → Nat) (h : ∀ x, x < n → f x = g x) : (List.range n).map f = (List.range n).map g :=
  List.map_congr_left fun x hx => h x (List.mem_range.1 hx)
set_option maxRecDepth 100000 in
set_option maxHeartbeats 1000000 in
theorem orders_walk (n : Int) (A : Option Addr) (len cap : Nat) (L : List (Int × Int)) (w : World) (hl : L.length = len) (hL : Pairs w (.slice A len cap) L) (hg : ErrType w) :
    Calls Tryd.prog 4 #[.int .i64 n, .slice A len cap] w (TrueSaid w) := by
  subst hl
  have HW := Lib.hid (fun W => huge_walk n A L.length cap W)
  have SW := Lib.hid (fun W => sure_walk W)
  by_cases hh : hugeB n L.length = true
  · rw [hh] at HW
    clear hh hL
    go_enter Tryd.func4, Tryd.ntmps4
    go_wp2_with (fail)
    refine (HW.out _).mono ?_
    rintro x w1 ⟨rfl, rfl⟩
    go_wp2_with (fail)
    refine (SW.out _).mono ?_
    rintro x w2 ⟨rfl, B2⟩
    go_wp2
    go_ret
    exact ⟨rfl, B2⟩
  · have hh' : hugeB n L.length = false := by simpa using hh
    rw [hh'] at HW
    have HL := Lib.hid hL
    have HG := Lib.hid hg
    have RC := Lib.hid (refCheck_walk n (.slice A L.length cap) L w hL)
    have CK := Lib.hid (fun W h => check_walk n (.slice A L.length cap) L W h)
    by_cases hc : chkF n L = 0
    · rw [hc] at RC CK
      rw [errI_zero] at CK
      obtain ⟨M, E, rfl, rfl, hE, hM, hm⟩ := chkF_zero hc
      have hsm : M ≤ 40 ∧ E.length ≤ 80 := by
        rw [castE_len] at hh'
        unfold hugeB at hh'
        simp only [Bool.or_eq_false_iff, Bool.and_eq_false_iff, decide_eq_false_iff_not] at hh'
        omega
      obtain ⟨hM40, hm80⟩ := hsm
      rw [castE_len] at *
      have LO := Lib.hid (loop_ok M _ E w hL hE hM hm)
      have OO := Lib.hid (fun W h => order_ok M (.slice A E.length cap) E W h hE hM hm)
      have DO := Lib.hid (fun W h => depths_ok M (.slice A E.length cap) E W h hE hM hm)
      have RL := Lib.hid (fun W h => refLoop_walk M A cap E W h hE hM hm)
      have RO := Lib.hid (fun W h hA => refOrder_walk M A cap E W h hE hM hm hA)
      have RD := Lib.hid (fun W h => refDepths_walk M A cap E W h hE hM40 (by omega))
      have HE := Lib.hid hE
      clear hh hh' hL hc hg hE hm hM hm80
      generalize E.length = m at *
      go_enter Tryd.func4, Tryd.ntmps4
      go_wp2_with (fail)
      refine (HW.out _).mono ?_
      rintro x w1 ⟨rfl, rfl⟩
      go_wp2_with (fail)
      refine RC.out.mono ?_
      rintro x w2 ⟨rfl, rfl⟩
      go_wp2_with (fail)
      refine LO.out.mono ?_
      intro x w3 hs
      obtain ⟨k, is, hki, rfl, B3⟩ := hs.is
      have HK := Lib.hid hki
      have OO2 := Lib.hid (OO.out w3 (HL.out.below B3))
      clear hs hki LO RC
      go_wp2_with (fail)
      refine OO2.out.mono ?_
      rintro x w4 ⟨⟨o, dep, hso, hr⟩, B4⟩
      have B14 := below_trans B3 B4
      have DO2 := Lib.hid (DO.out w4 (HL.out.below B14))
      have hacy := HK.out.acyc HE.out
      have hful := hso.full HE.out
      have HSO := Lib.hid hso
      clear hso OO2 OO DO
      cases is with
      | true =>
        have hol : o.length ≠ M := fun h => by have := hacy.2 (hful.1 h); cases this
        rcases hr with ⟨h, _⟩ | ⟨_, rfl⟩
        · exact absurd h hol
        have hnac : ¬ Acyc E := fun h => by have := hacy.2 h; cases this
        have HNA := Lib.hid hnac
        clear hol hacy hful hnac
        go_wp2_with (fail)
        refine DO2.out.mono ?_
        rintro x w5 ⟨⟨o', dep', hso', hr'⟩, B5⟩
        rcases hr' with ⟨h, _⟩ | ⟨_, rfl⟩
        · exact absurd ((hso'.full HE.out).1 h) HNA.out
        have B15 := below_trans B14 B5
        have CK2 := Lib.hid (CK.out w5 (HL.out.below B15))
        clear hso'
        go_wp2_with (fail)
        refine CK2.out.mono ?_
        rintro x w6 ⟨rfl, B6⟩
        have B16 := below_trans B15 B6
        go_wp2_with (fail)
        refine (num_nil _).mono ?_
        rintro x w7 ⟨rfl, B7⟩
        have B17 := below_trans B16 B7
        go_wp2_with (fail)
        refine (num_nil _).mono ?_
        rintro x w8 ⟨rfl, B8⟩
        have B18 := below_trans B17 B8
        have RL2 := Lib.hid (RL.out w8 (HL.out.below B18))
        go_wp2_with (fail)
        refine RL2.out.mono ?_
        rintro x w9 ⟨k2, is2, hk2, rfl, B9⟩
        obtain ⟨rfl, rfl⟩ := HK.out.uniq hk2
        rw [if_pos rfl]
        have B19 := below_trans B18 B9
        have k0 : (0 : Int) ≤ (k2 : Int) := by omega
        have NH := Lib.hid (num_hit 9 w9 (HG.out.below B19))
        clear hk2 HK RL2 CK2 DO2
        go_wp2_with (fail)
        refine NH.out.mono ?_
        rintro x w10 ⟨rfl, B10⟩
        have B20 := below_trans B19 B10
        have NH2 := Lib.hid (num_hit 9 w10 (HG.out.below B20))
        go_wp2_with (fail)
        refine NH2.out.mono ?_
        rintro x w11 ⟨rfl, B11⟩
        have B21 := below_trans B20 B11
        go_wp2_with (fail)
        refine (SW.out _).mono ?_
        rintro x w12 ⟨rfl, B12⟩
        have B := below_trans B21 B12
        go_wp2
        go_ret
        exact ⟨rfl, B⟩
      | false =>
        have hac : Acyc E := hacy.1 rfl
        have hol : o.length = M := hful.2 hac
        rcases hr with ⟨_, ov, rfl, hov⟩ | ⟨h, _⟩
        rotate_left
        · exact absurd hol h
        have HNA := Lib.hid hac
        have HOV := Lib.hid (Reads.of_owns hov)
        have HOL := Lib.hid hol
        clear hol hacy hful hac hov
        go_wp2_with (fail)
        refine DO2.out.mono ?_
        rintro x w5 ⟨⟨o', dep', hso', hr'⟩, B5⟩
        have hol' := (hso'.full HE.out).2 HNA.out
        rcases hr' with ⟨_, gd, rfl, _, hbd⟩ | ⟨h, _⟩
        rotate_left
        · exact absurd hol' h
        have hdep : ∀ y, depN E M y = dep' y := depN_eq E M o' dep' hso'.dp (by omega) (fun a b e => hso'.gre.full hol' (HE.out _ e).1)
        have B15 := below_trans B14 B5
        have CK2 := Lib.hid (CK.out w5 (HL.out.below B15))
        have HDEP := Lib.hid hdep
        have HBD := Lib.hid (reads_natsA hbd)
        have HOV5 := Lib.hid (HOV.out.below B5)
        clear hso' hdep hol' hbd HOV
        go_wp2_with (fail)
        refine CK2.out.mono ?_
        rintro x w6 ⟨rfl, B6⟩
        have B16 := below_trans B15 B6
        go_wp2_with (fail)
        refine (num_nil _).mono ?_
        rintro x w7 ⟨rfl, B7⟩
        have B17 := below_trans B16 B7
        go_wp2_with (fail)
        refine (num_nil _).mono ?_
        rintro x w8 ⟨rfl, B8⟩
        have B18 := below_trans B17 B8
        have B58 := below_trans (below_trans B6 B7) B8
        have RL2 := Lib.hid (RL.out w8 (HL.out.below B18))
        go_wp2_with (fail)
        refine RL2.out.mono ?_
        rintro x w9 ⟨k2, is2, hk2, rfl, B9⟩
        obtain ⟨rfl, rfl⟩ := HK.out.uniq hk2
        rw [if_neg (by simp)]
        have hk0 : k2 = 0 := by
          rcases hk2 with ⟨h, _⟩ | ⟨_, h, _⟩
          · cases h
          · exact h
        subst hk0
        have B19 := below_trans B18 B9
        have B59 := below_trans B58 B9
        have RO2 := Lib.hid (RO.out w9 (HL.out.below B19) HNA.out)
        clear hk2 HK RL2 CK2 DO2
        go_wp2_with (fail)
        refine RO2.out.mono ?_
        rintro x w10 ⟨o2, ov2, hG2, ho2, rfl, hov2, B10⟩
        obtain rfl : o = o2 := HSO.out.gre.unique' hG2 HOL.out ho2
        have B20 := below_trans B19 B10
        have B60 := below_trans B59 B10
        have IW := Lib.hid (ints_walk ov ov2 _ _ w10 (HOV5.out.below B60) (Reads.of_owns hov2) (by omega) (by omega))
        clear hG2 ho2 hov2 RO2 HSO HOL
        go_wp2_with (fail)
        refine IW.out.mono ?_
        rintro x w11 ⟨rfl, q, rfl⟩
        rw [decide_eq_true rfl]
        have B21 := below_drewN B20 q
        have B61 := below_drewN B60 q
        have RD2 := Lib.hid (RD.out _ (HL.out.below B21))
        clear IW
        go_wp2_with (fail)
        refine RD2.out.mono ?_
        rintro x w12 ⟨g2, rfl, _, hb2, B12⟩
        have B22 := below_trans B21 B12
        have B62 := below_trans B61 B12
        have hrd := reads_natsA hb2
        rw [range_natsA M _ _ (fun x _ => HDEP.out x)] at hrd
        have IW := Lib.hid (ints_walk _ _ _ _ w12 (HBD.out.below B62) hrd (by simp; omega) (by simp; omega))
        clear hb2 hrd RD2 HDEP HBD HOV5
        go_wp2_with (fail)
        refine IW.out.mono ?_
        rintro x w13 ⟨rfl, q2, rfl⟩
        rw [decide_eq_true rfl]
        have B23 := below_drewN B22 q2
        go_wp2_with (fail)
        refine (SW.out _).mono ?_
        rintro x w14 ⟨rfl, B14'⟩
        have B := below_trans B23 B14'
        go_wp2
        go_ret
        exact ⟨rfl, B⟩
    · have LB := Lib.hid (loop_bad' n _ L w hL hc)
      have OB := Lib.hid (fun W h => order_bad n (.slice A L.length cap) L W h hc)
      have DB := Lib.hid (fun W h => depths_bad n (.slice A L.length cap) L W h hc)
      have hk2 : ((chkF n L : Int) != 0) = true := by rw [bne_iff_ne]; exact hc
      rw [show errI (chkF n L) = .iface 43 (.int .i64 (chkF n L)) from if_neg hc] at CK
      clear hh hh' hL hc hg
      generalize chkF n L = k at *
      go_enter Tryd.func4, Tryd.ntmps4
      go_wp2_with (fail)
      refine (HW.out _).mono ?_
      rintro x w1 ⟨rfl, rfl⟩
      go_wp2_with (fail)
      refine RC.out.mono ?_
      rintro x w2 ⟨rfl, rfl⟩
      go_wp2_with (fail)
      refine LB.out.mono ?_
      rintro x w3 ⟨rfl, B3⟩
      have OB2 := Lib.hid (OB.out w3 (HL.out.below B3))
      go_wp2_with (fail)
      refine OB2.out.mono ?_
      rintro x w4 ⟨rfl, B4⟩
      have B14 := below_trans B3 B4
      have DB2 := Lib.hid (DB.out w4 (HL.out.below B14))
      go_wp2_with (fail)
      refine DB2.out.mono ?_
      rintro x w5 ⟨rfl, B5⟩
      have B15 := below_trans B14 B5
      have CK2 := Lib.hid (CK.out w5 (HL.out.below B15))
      go_wp2_with (fail)
      refine CK2.out.mono ?_
      rintro x w6 ⟨rfl, B6⟩
      have B16 := below_trans B15 B6
      have NH := Lib.hid (num_hit k w6 (HG.out.below B16))
      go_wp2_with (fail)
      refine NH.out.mono ?_
      rintro x w7 ⟨rfl, B7⟩
      have B17 := below_trans B16 B7
      have NH2 := Lib.hid (num_hit k w7 (HG.out.below B17))
      go_wp2_with (fail)
      refine NH2.out.mono ?_
      rintro x w8 ⟨rfl, B8⟩
      have B18 := below_trans B17 B8
      have NH3 := Lib.hid (num_hit k w8 (HG.out.below B18))
      go_wp2_with (fail)
      refine NH3.out.mono ?_
      rintro x w9 ⟨rfl, B9⟩
      have B19 := below_trans B18 B9
      have NH4 := Lib.hid (num_hit k w9 (HG.out.below B19))
      go_wp2_with (fail)
      refine NH4.out.mono ?_
      rintro x w10 ⟨rfl, B10⟩
      have B20 := below_trans B19 B10
      go_wp2_with (fail)
      refine (SW.out _).mono ?_
      rintro x w11 ⟨rfl, B11⟩
      have B := below_trans B20 B11
      go_wp2
      go_ret
      exact ⟨rfl, B⟩
end Go.Proofs.YtdgclggmemciaaaDoor
