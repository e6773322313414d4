/- The document's Blocked. -/
import Derived.Test.YtbnnbhblfclomaaDoorB7
import Derived.Test.YtbnnbhblfclomaaDoorB9
namespace Go.Proofs.YtbnnbhblfclomaaDoor
open Go.RowKit
set_option linter.unusedSimpArgs false
set_option linter.unusedVariables false
def RefBlockedSaid (D : List Dp) (S : List Int) (of_ : Int) (w : World) (y : Ending) (w' : World) : Prop :=
  y = .returned (.tuple #[.bool (blockedB D S of_), .int .i64 (blockedE D S of_)]) ∧ w' = w
theorem half_step (m j : Nat) : m / 2 ^ j / 2 = m / 2 ^ (j + 1) := by rw [Nat.div_div_eq_div_mul, Nat.pow_succ]
set_option maxRecDepth 100000 in
set_option maxHeartbeats 8000000 in
theorem refBlocked_walk (v u : Value) (D : List Dp) (S : List Int) (of_ : Int) (w : World) (hD : RdD w v w.heap.size D) (hS : RdI w u w.heap.size S) (hl : D.length ≤ 60) (hs : S.length ≤ 60) :
    Calls Tryd.prog 14 #[v, u, .int .i64 of_] w (RefBlockedSaid D S of_ w) := by
  have CK := Lib.hid (checkD_walk v D (S.length : Int) of_ w hD hl)
  obtain ⟨A, cap, rfl⟩ := hD.form
  obtain ⟨A1, cap1, rfl⟩ := hS.form
  have HD := Lib.hid hD
  have HS := Lib.hid hS
  have HBE := Lib.hid (show ∀ (b : Bool) (e : Int), blockedB D S of_ = b → blockedE D S of_ = e → RefBlockedSaid D S of_ w (.returned (.tuple #[.bool b, .int .i64 e])) w from fun b e h1 h2 => ⟨by rw [h1, h2], rfl⟩)
  clear hD hS
  by_cases hc : checkE D S.length of_ = 0
  · obtain ⟨⟨hof0, hof1⟩, hrng⟩ := check_range (by omega) hc
    have HRG := Lib.hid hrng
    rw [hc] at CK
    have hE : blockedE D S of_ = if (D.any oddD || S.any noneS) = true then 1 else 0 := by unfold blockedE; rw [if_neg (by simpa using hc)]
    have HE := Lib.hid hE
    have HB := Lib.hid (show blockedB D S of_ = if blockedE D S of_ = 0 then D.any (failsD S of_) else false from rfl)
    clear hc hrng hE
    go_enter Tryd.func14, Tryd.ntmps14
    go_wp2_with (fail)
    refine CK.out.mono ?_
    rintro y w1 ⟨rfl, rfl⟩
    clear CK
    go_upto_region 6 with (fail)
    go_loopw [10] (fun iv wr => ∃ i : Nat, iv = .int .i64 i ∧ i ≤ S.length ∧ (∀ j, j < i → noneS (S.getD j 0) = false) ∧ wr = w1) (fun iv _ => S.length - (intOf iv).toNat)
    case atStart => exact ⟨0, rfl, Nat.zero_le _, fun j hj => by omega, rfl⟩
    case round =>
      obtain ⟨i, rfl, hi, hno, hw⟩ := hrel
      subst hw
      have i0 : (0 : Int) ≤ i := by omega
      have HN := Lib.hid hno
      clear hno
      by_cases his : i < S.length
      · have his' : (i : Int) < (S.length : Int) := by omega
        obtain ⟨g, o, rfl, c0⟩ := HS.out.cell his
        have z0 := World.block_lt_of_cell? _ _ c0
        have HBAD := Lib.hid (show noneS (S.getD i 0) = true → RefBlockedSaid D S of_ wr (.returned (.tuple #[.bool false, .int .i64 1])) wr from fun h => by
          have hA : S.any noneS = true := List.any_eq_true.2 ⟨_, by rw [List.getD_eq_getElem?_getD, List.getElem?_eq_getElem his]; exact List.getElem_mem _, h⟩
          have he : blockedE D S of_ = 1 := by rw [HE.out, hA, Bool.or_true, if_pos rfl]
          exact HBE.out false 1 (by rw [HB.out, he]; rfl) he)
        have HNX := Lib.hid (show noneS (S.getD i 0) = false → ∀ j, j < i + 1 → noneS (S.getD j 0) = false from fun h j hj => by
          by_cases h2 : j = i
          · subst h2; exact h
          · exact HN.out j (by omega))
        generalize S.getD i 0 = s at *
        unfold noneS at HBAD
        by_cases h1 : s < 0
        · have HR := Lib.hid (HBAD.out (by rw [decide_eq_true h1]; rfl))
          go_wp2_with (fail)
          go_ret2
          exact HR.out
        · by_cases h2 : 3 < s
          · have HR := Lib.hid (HBAD.out (by rw [decide_eq_true h2, Bool.or_true]))
            go_wp2_with (fail)
            go_ret2
            exact HR.out
          · have HN2 := Lib.hid (HNX.out (by unfold noneS; rw [decide_eq_false h1, decide_eq_false h2]; rfl))
            go_wp2_with (fail)
            go_roundw
            case rel => exact ⟨i + 1, by go_num, by omega, HN2.out, by first | rfl | trivial⟩
            case measure => simp [intOf]; omega
      · have his' : ¬ (i : Int) < (S.length : Int) := by omega
        have hany : S.any noneS = false := by
          refine Bool.eq_false_iff.2 fun h => ?_
          obtain ⟨e, he, ha⟩ := List.any_eq_true.1 h
          obtain ⟨j, hj, rfl⟩ := List.mem_iff_getElem.1 he
          have := HN.out j (by omega)
          rw [List.getD_eq_getElem?_getD, List.getElem?_eq_getElem hj, Option.getD_some] at this
          rw [this] at ha; cases ha
        have HSR := Lib.hid (any_range hany)
        rw [hany, Bool.or_false] at HE
        clear hany HN
        go_upto_region 11 with (fail)
        go_loopw [9, 11, 12, 13] (fun bv jv _ _ wl => ∃ j : Nat, bv = .bool ((D.take j).any (failsD S of_)) ∧ jv = .int .i64 j ∧ j ≤ D.length ∧ (∀ x, x < j → oddD (D.getD x dp0) = false) ∧ wl = wr) (fun _ jv _ _ _ => D.length - (intOf jv).toNat)
        case atStart => exact ⟨0, rfl, rfl, Nat.zero_le _, fun j hj => by omega, rfl⟩
        case round =>
          obtain ⟨w2, rfl⟩ : ∃ Z, Z = wr := ⟨_, rfl⟩
          obtain ⟨j, rfl, rfl, hj, hno, hw⟩ := hrel
          subst hw
          have j0 : (0 : Int) ≤ j := by omega
          have HN := Lib.hid hno
          clear hno
          by_cases hjd : j < D.length
          · have hjd' : (j : Int) < (D.length : Int) := by omega
            obtain ⟨g, o, rfl, hg, c0, c1, c2⟩ := HD.out.cell hjd
            have z0 := World.block_lt_of_cell? _ _ c0
            have hmem : D.getD j dp0 ∈ D := by rw [List.getD_eq_getElem?_getD, List.getElem?_eq_getElem hjd]; exact List.getElem_mem _
            obtain ⟨⟨ha0, ha1⟩, hb0, hb1⟩ := HRG.out _ hmem
            have HBAD := Lib.hid (show oddD (D.getD j dp0) = true → RefBlockedSaid D S of_ w2 (.returned (.tuple #[.bool false, .int .i64 1])) w2 from fun h => by
              have hA : D.any oddD = true := List.any_eq_true.2 ⟨_, hmem, h⟩
              have he : blockedE D S of_ = 1 := by rw [HE.out, hA, if_pos rfl]
              exact HBE.out false 1 (by rw [HB.out, he]; rfl) he)
            have HNX := Lib.hid (show oddD (D.getD j dp0) = false → ∀ x, x < j + 1 → oddD (D.getD x dp0) = false from fun h x hx => by
              by_cases h2 : x = j
              · subst h2; exact h
              · exact HN.out x (by omega))
            have HTK := Lib.hid (show (D.take (j + 1)).any (failsD S of_) = ((D.take j).any (failsD S of_) || failsD S of_ (D.getD j dp0)) by rw [takeD_succ hjd, List.any_append]; simp)
            generalize D.getD j dp0 = d at *
            obtain ⟨a, b, m⟩ := d
            dsimp only at c0 c1 c2 ha0 ha1 hb0 hb1
            clear hmem HN
            by_cases h1 : m < 0
            · have HR := Lib.hid (HBAD.out (by unfold oddD; rw [decide_eq_true h1]; rfl))
              go_wp2_with (fail)
              go_ret2
              exact HR.out
            · by_cases h2 : 15 < m
              · have HR := Lib.hid (HBAD.out (by unfold oddD; rw [decide_eq_true h2, Bool.or_true]))
                go_wp2_with (fail)
                go_ret2
                exact HR.out
              · have HN2 := Lib.hid (HNX.out (by unfold oddD; rw [decide_eq_false h1, decide_eq_false h2]; rfl))
                obtain ⟨an, rfl⟩ := Int.eq_ofNat_of_zero_le ha0
                obtain ⟨mn, rfl⟩ := Int.eq_ofNat_of_zero_le (show 0 ≤ m by omega)
                have han : an < S.length := by omega
                obtain ⟨g1, o1, rfl, s0⟩ := HS.out.cell han
                have zs := World.block_lt_of_cell? _ _ s0
                have hsr := HSR.out (S.getD an 0) (by rw [List.getD_eq_getElem?_getD, List.getElem?_eq_getElem han]; exact List.getElem_mem _)
                have HF : Hid (failsD S of_ ⟨(an : Int), b, (mn : Int)⟩ = (decide (b = of_) && decide (mn / 2 ^ (S.getD an 0).toNat % 2 = 1))) := Lib.hid rfl
                obtain ⟨sn, hsn⟩ := Int.eq_ofNat_of_zero_le hsr.1
                rw [hsn] at s0 hsr HF
                rw [Int.toNat_natCast] at HF
                have hs3 : sn ≤ 3 := by omega
                clear hsn HBAD HNX
                go_upto_region 17 with (fail)
                go_loopw [12, 13] (fun mv xv wl => ∃ x : Nat, mv = .int .i64 ((mn / 2 ^ x : Nat) : Int) ∧ xv = .int .i64 x ∧ x ≤ sn ∧ wl = w2) (fun _ xv _ => sn - (intOf xv).toNat)
                case atStart => exact ⟨0, by simp, rfl, Nat.zero_le _, rfl⟩
                case round =>
                  obtain ⟨w3, rfl⟩ : ∃ Z, Z = wr := ⟨_, rfl⟩
                  obtain ⟨x, rfl, rfl, hx, hw⟩ := hrel
                  subst hw
                  have x0 : (0 : Int) ≤ x := by omega
                  have hmx : mn / 2 ^ x ≤ 15 := Nat.le_trans (Nat.div_le_self _ _) (by omega)
                  have HHS := Lib.hid (half_step mn x)
                  by_cases hxs : x < sn
                  · have hxs' : (x : Int) < (sn : Int) := by omega
                    generalize mn / 2 ^ x = y at *
                    have hq : ((y : Int)).tdiv 2 = ((y / 2 : Nat) : Int) := by rw [Int.tdiv_eq_ediv_of_nonneg (by omega)]; omega
                    go_wp2_with (fail)
                    go_roundw
                    case rel => exact ⟨x + 1, by rw [← HHS.out]; first | rfl | (congr 1; done) | (congr 1; omega), by go_num, by omega, by first | rfl | trivial⟩
                    case measure => simp [intOf]; omega
                  · have hxe : x = sn := by omega
                    have hxs' : ¬ (x : Int) < (sn : Int) := by omega
                    rw [hxe] at hmx HHS
                    clear HHS
                    have hxm : mn / 2 ^ x = mn / 2 ^ sn := by rw [hxe]
                    rw [hxm]
                    clear hxm hxe
                    generalize mn / 2 ^ sn = y at *
                    have hq : ((y : Int)).tmod 2 = ((y % 2 : Nat) : Int) := by rw [Int.tmod_eq_emod_of_nonneg (by omega)]; omega
                    have hr : (((y % 2 : Nat) : Int) == 1) = decide (y % 2 = 1) := by
                      by_cases h : y % 2 = 1
                      · rw [decide_eq_true h, h]; rfl
                      · rw [decide_eq_false h]; exact beq_eq_false_iff_ne.2 (by omega)
                    have hr2 : ((y : Int) % 2 == 1) = decide (y % 2 = 1) := by
                      by_cases h : y % 2 = 1
                      · rw [decide_eq_true h]; exact beq_iff_eq.2 (by omega)
                      · rw [decide_eq_false h]; exact beq_eq_false_iff_ne.2 (by omega)
                    rw [HF.out] at HTK
                    clear HF
                    generalize (D.take j).any (failsD S of_) = b1 at *
                    by_cases hbo : b = of_
                    · have hbo' : (b == of_) = true := by simp [hbo]
                      rw [decide_eq_true hbo, Bool.true_and] at HTK
                      generalize decide (y % 2 = 1) = b2 at *
                      clear hbo
                      cases b1
                      · go_wp2_with (fail)
                        go_roundw
                        case rel => exact ⟨j + 1, by rw [HTK.out]; rfl, by go_num, by omega, HN2.out, by first | rfl | trivial⟩
                        case measure => simp [intOf]; omega
                      · go_wp2_with (fail)
                        go_roundw
                        case rel => exact ⟨j + 1, by rw [HTK.out]; rfl, by go_num, by omega, HN2.out, by first | rfl | trivial⟩
                        case measure => simp [intOf]; omega
                    · have hbo' : (b == of_) = false := by simp [hbo]
                      rw [decide_eq_false hbo, Bool.false_and] at HTK
                      clear hbo
                      cases b1
                      · go_wp2_with (fail)
                        go_roundw
                        case rel => exact ⟨j + 1, by rw [HTK.out]; rfl, by go_num, by omega, HN2.out, by first | rfl | trivial⟩
                        case measure => simp [intOf]; omega
                      · go_wp2_with (fail)
                        go_roundw
                        case rel => exact ⟨j + 1, by rw [HTK.out]; rfl, by go_num, by omega, HN2.out, by first | rfl | trivial⟩
                        case measure => simp [intOf]; omega
          · have hjd' : ¬ (j : Int) < (D.length : Int) := by omega
            have hany : D.any oddD = false := by
              refine Bool.eq_false_iff.2 fun h => ?_
              obtain ⟨e, he, ha⟩ := List.any_eq_true.1 h
              obtain ⟨x, hx, rfl⟩ := List.mem_iff_getElem.1 he
              have := HN.out x (by omega)
              rw [List.getD_eq_getElem?_getD, List.getElem?_eq_getElem hx, Option.getD_some] at this
              rw [this] at ha; cases ha
            rw [hany, if_neg (by decide)] at HE
            rw [HE.out, if_pos rfl] at HB
            have HT : Hid ((D.take j).any (failsD S of_) = D.any (failsD S of_)) := Lib.hid (by rw [List.take_of_length_le (by omega)])
            have HR := Lib.hid (HBE.out ((D.take j).any (failsD S of_)) 0 (by rw [HT.out]; exact HB.out) HE.out)
            generalize (D.take j).any (failsD S of_) = b1 at *
            clear hany
            go_wp2_with (fail)
            go_ret2
            exact HR.out
  · have hE : blockedE D S of_ = checkE D S.length of_ := by unfold blockedE; rw [if_pos hc]
    have hB : blockedB D S of_ = false := by unfold blockedB; rw [hE, if_neg hc]
    have hc2 : (checkE D S.length of_ != 0) = true := by simpa using hc
    have HR := Lib.hid (HBE.out false _ hB hE)
    generalize checkE D S.length of_ = E at *
    clear hc hE hB
    go_enter Tryd.func14, Tryd.ntmps14
    go_wp2_with (fail)
    refine CK.out.mono ?_
    rintro y w1 ⟨rfl, rfl⟩
    clear CK
    go_wp2_with (fail)
    go_ret2
    exact HR.out
end Go.Proofs.YtbnnbhblfclomaaDoor
