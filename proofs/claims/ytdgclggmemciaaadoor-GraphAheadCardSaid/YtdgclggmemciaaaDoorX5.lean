/- The law GraphAhead, walked. -/
import Derived.Test.YtdgclggmemciaaaDoorB1
namespace Go.Proofs.YtdgclggmemciaaaDoor
open Go.RowKit
set_option linter.unusedSimpArgs false
set_option linter.unusedVariables false
theorem LoopIs.uniq {E : Ways} {n k k2 : Nat} {is is2 : Bool} (h : LoopIs E n k is) (h2 : LoopIs E n k2 is2) : k2 = k ∧ is2 = is := by
  have := LoopIs.turn h (k2 := k2) (is2 := is2) (by
    rcases h2 with ⟨b1, b2, b3, b4⟩ | ⟨b1, b2, b3⟩
    · exact .inl ⟨b1, b2, cyc_turn.2 b3, fun j hj c => b4 j hj (cyc_turn.1 c)⟩
    · exact .inr ⟨b1, b2, fun j hj c => b3 j hj (cyc_turn.1 c)⟩)
  exact this
theorem LoopIs.acyc {E : Ways} {n k : Nat} {is : Bool} (h : LoopIs E n k is) (hE : ∀ e, e ∈ E → e.1 < n ∧ e.2 < n) : is = false ↔ Acyc E := by
  rcases h with ⟨a1, a2, a3, a4⟩ | ⟨a1, a2, a3⟩
  · rw [a1]
    exact ⟨fun h => Bool.noConfusion h, fun h => absurd a3 (h k)⟩
  · rw [a1]
    exact ⟨fun _ x hx => a3 x (hx.lt hE) hx, fun _ => rfl⟩
def atF (o : List Nat) (i y : Nat) : Nat := if y ∈ o.take i then o.idxOf y + 1 else 0
theorem atF_zero (o : List Nat) : atF o 0 = fun _ => 0 := by funext y; unfold atF; simp
theorem Gre.new {E : Ways} {n : Nat} {o : List Nat} (h : Gre E n o) : ∀ (i : Nat) (hi : i < o.length), o[i] ∉ o.take i := by
  induction h with
  | nil => intro i hi; simp at hi
  | snoc h hf hl ih =>
    rename_i o x
    intro i hi
    rw [List.length_append, List.length_singleton] at hi
    by_cases c : i < o.length
    · rw [List.getElem_append_left c, List.take_append_of_le_length (by omega)]
      exact ih i c
    · have hie : i = o.length := by omega
      subst hie
      rw [List.getElem_append_right (Nat.le_refl _), List.take_left' rfl]
      simpa using hf.2.1
theorem atF_succ {E : Ways} {n : Nat} {o : List Nat} (h : Gre E n o) (i x : Nat) (hx : o[i]? = some x) : atF o (i + 1) = updN (atF o i) x (i + 1) := by
  obtain ⟨hi, rfl⟩ := List.getElem?_eq_some_iff.1 hx
  have hn := h.new i hi
  have hidx : o.idxOf o[i] = i := by
    have h1 : o = o.take i ++ o[i] :: o.drop (i + 1) := by rw [← List.drop_eq_getElem_cons hi, List.take_append_drop]
    have h2 : (o.take i ++ o[i] :: o.drop (i + 1)).idxOf o[i] = i := by
      rw [List.idxOf_append, if_neg hn, List.idxOf_cons_self, List.length_take]; omega
    rw [← h1] at h2; exact h2
  funext y
  have hmem : y ∈ o.take (i + 1) ↔ y ∈ o.take i ∨ y = o[i] := by
    rw [List.take_add_one, hx, List.mem_append]
    simp
  unfold atF updN
  by_cases c : y = o[i]
  · rw [if_pos (hmem.2 (.inr c)), if_pos c, c, hidx]
  · rw [if_neg c]
    dsimp only
    by_cases d : y ∈ o.take i
    · rw [if_pos (hmem.2 (.inl d)), if_pos d]
    · rw [if_neg (fun e => (hmem.1 e).elim d c), if_neg d]
theorem atF_new {E : Ways} {n : Nat} {o : List Nat} (h : Gre E n o) (i x : Nat) (hx : o[i]? = some x) : atF o i x = 0 := by
  obtain ⟨hi, rfl⟩ := List.getElem?_eq_some_iff.1 hx
  unfold atF
  rw [if_neg (h.new i hi)]
theorem atF_all (o : List Nat) (y : Nat) (hy : y ∈ o) : atF o o.length y = o.idxOf y + 1 := by
  unfold atF; rw [List.take_of_length_le (Nat.le_refl _), if_pos hy]
theorem atF_le (o : List Nat) (i y : Nat) : atF o i y ≤ o.length + 1 := by
  unfold atF; split
  · have := List.idxOf_le_length (a := y) (l := o); omega
  · omega
/-- Some of the first ways leads from a place to one from which it is reached. -/
def Back (E : Ways) (x i : Nat) (b : Bool) : Prop := b = true ↔ ∃ e, e ∈ E.take i ∧ e.1 = x ∧ Rch E e.2 x
theorem Back.zero (E : Ways) (x : Nat) : Back E x 0 false := by unfold Back; simp
theorem Back.skip {E : Ways} {x i a b : Nat} {v : Bool} (h : Back E x i v) (hab : E[i]? = some (a, b)) (hne : a ≠ x) : Back E x (i + 1) v := by
  unfold Back at *
  rw [h, List.take_add_one, hab]
  constructor
  · rintro ⟨e, h1, h2⟩; exact ⟨e, by simp [h1], h2⟩
  · rintro ⟨e, h1, h2, h3⟩
    simp only [Option.toList_some, List.mem_append, List.mem_singleton] at h1
    rcases h1 with h1 | rfl
    · exact ⟨e, h1, h2, h3⟩
    · exact absurd h2 hne
theorem Back.step {E : Ways} {x i a b : Nat} {v s : Bool} (h : Back E x i v) (hab : E[i]? = some (a, b)) (he : a = x) (hs : s = true ↔ Rch E b x) : Back E x (i + 1) (v || s) := by
  unfold Back at *
  rw [Bool.or_eq_true, h, hs, List.take_add_one, hab]
  constructor
  · rintro (⟨e, h1, h2⟩ | h1)
    · exact ⟨e, by simp [h1], h2⟩
    · exact ⟨(a, b), by simp, he, h1⟩
  · rintro ⟨e, h1, h2, h3⟩
    simp only [Option.toList_some, List.mem_append, List.mem_singleton] at h1
    rcases h1 with h1 | rfl
    · exact .inl ⟨e, h1, h2, h3⟩
    · exact .inr h3
theorem Back.all {E : Ways} {x i : Nat} {v : Bool} (h : Back E x i v) (hi : E.length ≤ i) (hc : Cyc E x) : v = true := by
  unfold Back at h
  rw [h, List.take_of_length_le hi]
  obtain ⟨y, h1, h2⟩ := hc
  exact ⟨(x, y), h1, rfl, h2⟩
def hasL (l : List Nat) (v : Nat) : Bool := l.any (· == v)
theorem hasL_nil (v : Nat) : hasL [] v = false := rfl
theorem hasL_succ (l : List Nat) (i v : Nat) (h : i < l.length) : hasL (l.take (i + 1)) v = (hasL (l.take i) v || (l.getD i 0 == v)) := by
  unfold hasL
  rw [List.take_add_one, List.getElem?_eq_getElem h, List.getD_eq_getElem?_getD, List.getElem?_eq_getElem h, List.any_append]; simp
theorem hasL_filt (seen : Nat → Bool) (n v : Nat) (h : v < n) : hasL ((List.range n).filter seen) v = seen v := by
  unfold hasL
  rw [Bool.eq_iff_iff, List.any_eq_true]
  constructor
  · rintro ⟨x, h1, h2⟩
    rw [beq_iff_eq] at h2
    subst h2
    exact (List.mem_filter.1 h1).2
  · intro hs
    exact ⟨v, List.mem_filter.2 ⟨List.mem_range.2 h, hs⟩, by simp⟩
set_option maxRecDepth 100000 in
set_option maxHeartbeats 2000000 in
theorem ahead_easy (n : Int) (A : Option Addr) (cap : Nat) (L : List (Int × Int)) (w : World) (hL : Pairs w (.slice A L.length cap) L) (h : hugeB n L.length = true ∨ chkF n L ≠ 0) :
    Calls Tryd.prog 5 #[.int .i64 n, .slice A L.length cap] w (TrueSaid w) := by
  have HW := Lib.hid (fun W => huge_walk n A L.length cap W)
  have SW := Lib.hid (fun W => sure_walk W)
  have CK := Lib.hid (check_walk n _ L w hL)
  clear hL
  generalize hugeB n L.length = hb at *
  go_enter Tryd.func5, Tryd.ntmps5
  go_wp2_with (fail)
  refine (HW.out _).mono ?_
  rintro x w1 ⟨rfl, rfl⟩
  cases hb
  · have hc : chkF n L ≠ 0 := h.resolve_left (by simp)
    rw [show errI (chkF n L) = .iface 43 (.int .i64 (chkF n L)) from if_neg hc] at CK
    clear h hc
    go_wp2_with (fail)
    refine CK.out.mono ?_
    rintro x w2 ⟨rfl, B2⟩
    go_wp2_with (fail)
    refine (SW.out _).mono ?_
    rintro x w4 ⟨rfl, B4⟩
    have B5 := below_trans B2 B4
    go_wp2
    go_ret
    exact ⟨rfl, B5⟩
  · clear h
    go_wp2_with (fail)
    refine (SW.out _).mono ?_
    rintro x w2 ⟨rfl, B2⟩
    go_wp2
    go_ret
    exact ⟨rfl, B2⟩
set_option maxRecDepth 100000 in
set_option maxHeartbeats 2000000 in
theorem ahead_main (n : Nat) (A : Option Addr) (cap : Nat) (E : Ways) (w : World) (hL : Pairs w (.slice A E.length cap) (castE E)) (hn : n ≤ 40) (hm : E.length ≤ 80) (hE : ∀ e, e ∈ E → e.1 < n ∧ e.2 < n) (hg : ErrType w) :
    Calls Tryd.prog 5 #[.int .i64 n, .slice A E.length cap] w (TrueSaid w) := by
  have hh : hugeB n E.length = false := by unfold hugeB; simp; omega
  have HW := Lib.hid (fun W => huge_walk n A E.length cap W)
  rw [hh] at HW
  have SW := Lib.hid (fun W => sure_walk W)
  have CK := check_walk n _ _ _ hL
  rw [chkF_ok hE (by omega) (by omega), errI_zero] at CK
  have HCK := Lib.hid CK
  have HL := Lib.hid hL
  have HE := Lib.hid hE
  have HG := Lib.hid hg
  have n0 : (0 : Int) ≤ (n : Int) := by omega
  have OO := Lib.hid (fun W h => order_ok n (.slice A E.length cap) E W h hE (by omega) (by omega))
  have DO := Lib.hid (fun W h => depths_ok n (.slice A E.length cap) E W h hE (by omega) (by omega))
  have LO := Lib.hid (fun W h => loop_ok n (.slice A E.length cap) E W h hE (by omega) (by omega))
  have RO := Lib.hid (fun f W h hf => reach_ok n f (.slice A E.length cap) E W h hE (by omega) (by omega) hf)
  have HM := fun W => make_walk n (by omega) W
  clear hL hE CK hh hg
  generalize hm' : E.length = m at *
  have HLEN := Lib.hid hm'
  clear hm'
  go_enter Tryd.func5, Tryd.ntmps5
  go_wp2_with (fail)
  refine (HW.out _).mono ?_
  rintro x w1 ⟨rfl, rfl⟩
  go_wp2_with (fail)
  refine HCK.out.mono ?_
  rintro x w2 ⟨rfl, B2⟩
  have OO2 := Lib.hid (OO.out w2 (HL.out.below B2))
  go_wp2_with (fail)
  refine OO2.out.mono ?_
  rintro x w3 ⟨⟨o, dep, hso, hr⟩, B3⟩
  have B13 := below_trans B2 B3
  have hful := hso.full HE.out
  have HSO := Lib.hid hso
  clear hso OO2 OO HCK HW B2 B3
  rcases hr with ⟨hol, ov, rfl, hov⟩ | ⟨hol, rfl⟩
  · have hac := hful.1 hol
    have HAC := Lib.hid hac
    have HOL := Lib.hid hol
    have HOV := Lib.hid (Reads.of_owns hov)
    have DO2 := Lib.hid (DO.out w3 (HL.out.below B13))
    clear hful hac hov LO RO DO
    go_wp2_with (fail)
    refine DO2.out.mono ?_
    rintro x w4 ⟨⟨o', dep', hso', hr'⟩, B4⟩
    have hol' := (hso'.full HE.out).2 HAC.out
    rcases hr' with ⟨_, gd, rfl, _, hbd⟩ | ⟨h, _⟩
    rotate_left
    · exact absurd hol' h
    have B14 := below_trans B13 B4
    have HDP := Lib.hid (show ∀ a b, (a, b) ∈ E → dep' a + 1 ≤ dep' b from fun a b e => hso'.dp.up a b e (hso'.gre.full hol' (HE.out _ e).1))
    have HDL := Lib.hid (show ∀ a, dep' a ≤ n from fun a => by have := hso'.dp.le a; omega)
    have HBD := Lib.hid hbd
    have zgd := hbd.lt
    obtain ⟨A2, cap2, rfl, hc2⟩ := (HOV.out.below B4).form
    have HC2 := Lib.hid hc2
    have dl : ((o.length : Int) != (n : Int)) = false := by rw [hol]; simp
    clear hso' hol' hbd hc2 DO2 HOV B4 hol
    go_upto_region 26 with (fail)
    have hbt := Blk.new w4 3 (natsA n (fun _ => 0))
    have Bt := below_al (Below.refl w4.heap.size w4) (.cells (natsA n (fun _ => 0)) 3)
    generalize hW5 : w4.alloc (.cells (natsA n (fun _ => 0)) 3) = w5 at *
    clear hW5 HM
    have HBT := Lib.hid (show Blk w5 w4.heap.size 3 (natsA n (atF o 0)) by rw [atF_zero]; exact hbt)
    clear hbt
    go_loopw [18] (fun iv wr => ∃ i : Nat, iv = .int .i64 i ∧ i ≤ n ∧ Blk wr w4.heap.size 3 (natsA n (atF o i)) ∧ Below w4.heap.size w4 wr) (fun iv _ => n - (intOf iv).toNat)
    case atStart => exact ⟨0, rfl, Nat.zero_le _, HBT.out, Bt⟩
    case round =>
      clear HBT Bt
      obtain ⟨i, rfl, hi, hb, Br⟩ := hrel
      by_cases hin : i < n
      · have d0 : decide ((i : Int) < (n : Int)) = true := decide_eq_true (by omega)
        obtain ⟨x, hx⟩ : ∃ x, o[i]? = some x := ⟨_, List.getElem?_eq_getElem (by rw [HOL.out]; omega)⟩
        obtain ⟨g2, o2, rfl, hc⟩ := HC2.out (by rw [HOL.out]; omega)
        have hxi := hc i (by rw [HOL.out]; omega)
        have hgx : o.getD i 0 = x := by rw [List.getD_eq_getElem?_getD, hx]; rfl
        rw [hgx] at hxi
        have zg2 : g2 < w4.heap.size := World.block_lt_of_cell? w4 _ hxi
        have c1 := (Br.cell (p := ⟨g2, o2 + i, none⟩) zg2).trans hxi
        have hxn : x < n := HSO.out.gre.lt x (List.mem_of_getElem? hx)
        have hnew := atF_new HSO.out.gre i x hx
        have HSU := Lib.hid (atF_succ HSO.out.gre i x hx)
        have c2 : wr.cell? ⟨w4.heap.size, x, none⟩ = some (.int .i64 0) := by rw [hb.cell, natsA_get _ hxn, hnew]; rfl
        have f2 := hb.frozen x
        have zb := hb.lt
        have x0 : (0 : Int) ≤ (x : Int) := by omega
        have x1 : (x : Int) < (n : Int) := by omega
        have i0 : (0 : Int) ≤ (i : Int) := by omega
        have i1 : (i : Int) < (n : Int) := by omega
        have i2 : (i : Int) < (o.length : Int) := by have := HOL.out; omega
        have hp0 := hb.put x (.int .i64 ((i + 1 : Nat) : Int)) (natsA_set n x (i + 1) _)
        rw [← HSU.out] at hp0
        have Bp := below_put (p := ⟨w4.heap.size, x, none⟩) Br (Nat.le_refl _) (.int .i64 ((i + 1 : Nat) : Int))
        have hcast : ((i + 1 : Nat) : Int) = (i : Int) + 1 := by omega
        rw [hcast] at hp0 Bp
        have HP := Lib.hid hp0
        have d1 : decide ((x : Int) < 0) = false := decide_eq_false (by omega)
        have d2 : decide ((n : Int) ≤ (x : Int)) = false := decide_eq_false (by omega)
        clear hb hx hc hxi hgx hnew hp0 hcast dl
        go_wp2
        go_roundw
        case rel => exact ⟨i + 1, by go_num, by omega, HP.out, Bp⟩
        case measure => simp [intOf]; omega
      · have d0 : decide ((i : Int) < (n : Int)) = false := decide_eq_false (by omega)
        have hin' : i = o.length := by rw [HOL.out]; omega
        subst hin'
        have HB := Lib.hid hb
        have HBD5 := Lib.hid (HBD.out.below Br)
        have B15 := below_trans B14 Br
        have HL5 := Lib.hid (HL.out.below B15)
        have zgd5 := HBD5.out.lt
        have zb5 := hb.lt
        clear hb HBD zgd B14 B13
        go_upto_region 32 with (fail)
        obtain ⟨wo, rfl⟩ : ∃ wo : World, wo = wr := ⟨_, rfl⟩
        go_loopw [19] (fun iv wr => ∃ j q : Nat, iv = .int .i64 j ∧ j ≤ m ∧ wr = wo.drewN q) (fun iv _ => m - (intOf iv).toNat)
        case atStart => exact ⟨0, 0, rfl, Nat.zero_le _, rfl⟩
        case round =>
          obtain ⟨j, q, rfl, hj, rfl⟩ := hrel
          by_cases hjm : j < m
          · have d3 : decide ((j : Int) < (m : Int)) = true := decide_eq_true (by omega)
            obtain ⟨⟨a, b⟩, hab⟩ : ∃ e, E[j]? = some e := ⟨_, List.getElem?_eq_getElem (by rw [HLEN.out]; omega)⟩
            have hmem := List.mem_of_getElem? hab
            have hab' := HE.out _ hmem
            have hl' := HL5.out
            rw [← HLEN.out] at hl'
            obtain ⟨ad, rfl, c0, c1, hlt⟩ := way_cells hl' (Below.refl _ _) hab
            have ha := HSO.out.gre.full HOL.out hab'.1
            have hb := HSO.out.gre.full HOL.out hab'.2
            have hidx := HSO.out.gre.idx a b hmem hb
            have hta := atF_all o a ha
            have htb := atF_all o b hb
            have hla := atF_le o o.length a
            have hlb := atF_le o o.length b
            have hdp := HDP.out a b hmem
            have hda := HDL.out a
            have hdb := HDL.out b
            have c2 : wo.cell? ⟨w4.heap.size, a, none⟩ = some (.int .i64 ((atF o o.length a : Nat) : Int)) := by rw [HB.out.cell]; exact natsA_get _ hab'.1
            have c3 : wo.cell? ⟨w4.heap.size, b, none⟩ = some (.int .i64 ((atF o o.length b : Nat) : Int)) := by rw [HB.out.cell]; exact natsA_get _ hab'.2
            have c4 : wo.cell? ⟨gd, a, none⟩ = some (.int .i64 ((dep' a : Nat) : Int)) := by rw [HBD5.out.cell]; exact natsA_get _ hab'.1
            have c5 : wo.cell? ⟨gd, b, none⟩ = some (.int .i64 ((dep' b : Nat) : Int)) := by rw [HBD5.out.cell]; exact natsA_get _ hab'.2
            have d4 : decide (((atF o o.length b : Nat) : Int) ≤ ((atF o o.length a : Nat) : Int)) = false := decide_eq_false (by omega)
            have d5 : decide (((dep' b : Nat) : Int) ≤ ((dep' a : Nat) : Int)) = false := decide_eq_false (by omega)
            have d6 : decide (atF o o.length b ≤ atF o o.length a) = false := decide_eq_false (by omega)
            have d7 : decide (dep' b ≤ dep' a) = false := decide_eq_false (by omega)
            generalize atF o o.length a = ta at *
            generalize atF o o.length b = tb at *
            generalize dep' a = da at *
            generalize dep' b = db at *
            have a0 : (0 : Int) ≤ (a : Int) := by omega
            have a1 : (a : Int) < (n : Int) := by have := hab'.1; omega
            have b0 : (0 : Int) ≤ (b : Int) := by omega
            have b1 : (b : Int) < (n : Int) := by have := hab'.2; omega
            have j0 : (0 : Int) ≤ (j : Int) := by omega
            have j1 : (j : Int) < (m : Int) := by omega
            clear hab hmem hab' hl' ha hb hidx hta htb hla hlb hdp hda hdb dl
            go_upto_region 34 with (fail)
            go_quiet (fail)
            go_wp2
            go_roundw
            case rel => exact ⟨j + 1, _, by go_num, by omega, rfl⟩
            case measure => simp [intOf]; omega
          · have d3 : decide ((j : Int) < (m : Int)) = false := decide_eq_false (by omega)
            have B6 := below_drewN B15 q
            go_wp2_with (fail)
            refine (SW.out _).mono ?_
            rintro x w6 ⟨rfl, B7⟩
            have B := below_trans B6 B7
            go_wp2
            go_ret
            exact ⟨rfl, B⟩
  · have hnac : ¬ Acyc E := fun h => hol (hful.2 h)
    have HNA := Lib.hid hnac
    have LO2 := Lib.hid (LO.out w3 (HL.out.below B13))
    clear hful hnac hol HSO DO HM LO
    go_wp2_with (fail)
    refine LO2.out.mono ?_
    intro x w4 hs
    obtain ⟨k, is, hki, rfl, B4⟩ := hs.is
    have hac := hki.acyc HE.out
    have hist : is = true := by
      cases is with
      | true => rfl
      | false => exact absurd (hac.1 rfl) HNA.out
    subst hist
    obtain ⟨hkn, hcy⟩ : k < n ∧ Cyc E k := by
      rcases hki with ⟨_, h1, h2, _⟩ | ⟨h, _⟩
      · exact ⟨h1, h2⟩
      · cases h
    have HCY := Lib.hid hcy
    have B14 := below_trans B13 B4
    have NH := Lib.hid (num_hit 9 w4 (HG.out.below B14))
    clear hs hki hac hcy LO2
    go_wp2_with (fail)
    refine NH.out.mono ?_
    rintro x w5 ⟨rfl, B5⟩
    have B15 := below_trans B14 B5
    clear B14 B13 B4 B5 NH
    go_upto_region 10 with (fail)
    go_loopw [10, 11] (fun bv iv wr => ∃ (i : Nat) (v : Bool), bv = .bool v ∧ iv = .int .i64 i ∧ i ≤ m ∧ Back E k i v ∧ Below w1.heap.size w1 wr) (fun _ iv _ => m - (intOf iv).toNat)
    case atStart => exact ⟨0, false, rfl, rfl, Nat.zero_le _, Back.zero E k, B15⟩
    case round =>
      clear B15
      obtain ⟨i, v, rfl, rfl, hi, hbk, Br⟩ := hrel
      have HBK := Lib.hid hbk
      clear hbk
      by_cases him : i < m
      · have d0 : decide ((i : Int) < (m : Int)) = true := decide_eq_true (by omega)
        obtain ⟨⟨a, b⟩, hab⟩ : ∃ e, E[i]? = some e := ⟨_, List.getElem?_eq_getElem (by rw [HLEN.out]; omega)⟩
        have hab' := HE.out _ (List.mem_of_getElem? hab)
        have hl' := HL.out
        rw [← HLEN.out] at hl'
        obtain ⟨ad, rfl, c0, c1, hlt⟩ := way_cells hl' Br hab
        have i0 : (0 : Int) ≤ (i : Int) := by omega
        have i1 : (i : Int) < (m : Int) := by omega
        have RO2 := Lib.hid (RO.out b wr (HL.out.below Br) hab'.2)
        by_cases hak : a = k
        · have d1 : ((a : Int) != (k : Int)) = false := by rw [hak]; simp
          have HST := Lib.hid (fun s hs => HBK.out.step (s := s) hab hak hs)
          clear hab hab' hl' hak
          go_wp2_with (fail)
          refine RO2.out.mono ?_
          rintro x w6 ⟨seen, pv, hs1, rfl, hp, B6⟩
          have hsk := hasL_filt seen n k hkn
          have hfl := filt_len seen n
          have HST2 := Lib.hid (HST.out (seen k) (hs1 k))
          rw [← hsk] at HST2
          obtain ⟨A1, c1p, rfl, hL1⟩ := (Reads.of_owns hp).form
          generalize (List.range n).filter seen = L1 at *
          have HL1 := Lib.hid hL1
          have B16 := below_trans Br B6
          clear hs1 hp hsk hL1 RO2 HST B6
          go_upto_region 17 with (fail)
          go_loop [10, 14] (fun sv iv => ∃ j : Nat, iv = .int .i64 j ∧ j ≤ L1.length ∧ sv = .bool (v || hasL (L1.take j) k)) (fun _ iv => L1.length - (intOf iv).toNat)
          case atStart => exact ⟨0, rfl, Nat.zero_le _, by rw [List.take_zero, hasL_nil, Bool.or_false]⟩
          case round =>
            obtain ⟨j, rfl, hj, rfl⟩ := hrel
            by_cases hjl : j < L1.length
            · have d2 : decide ((j : Int) < (L1.length : Int)) = true := decide_eq_true (by omega)
              obtain ⟨g, o, rfl, hc⟩ := HL1.out (by omega)
              have c2 := hc j hjl
              have HA := Lib.hid (hasL_succ L1 j k hjl)
              have j0 : (0 : Int) ≤ (j : Int) := by omega
              have j1 : (j : Int) < (L1.length : Int) := by omega
              clear hc
              generalize hbv : hasL (L1.take j) k = bv at *
              generalize L1.getD j 0 = la at *
              have q0 : ((la : Int) == (k : Int)) = (la == k) := by
                rw [Bool.eq_iff_iff, beq_iff_eq, beq_iff_eq]; omega
              generalize hq : (la == k) = qv at *
              clear hq hbv
              cases v
              · cases bv
                · go_wp2
                  go_round
                  case rel => exact ⟨j + 1, by go_num, by omega, by rw [HA.out]; simp⟩
                  case measure => simp [intOf]; omega
                · go_wp2
                  go_round
                  case rel => exact ⟨j + 1, by go_num, by omega, by rw [HA.out]; simp⟩
                  case measure => simp [intOf]; omega
              · go_wp2
                go_round
                case rel => exact ⟨j + 1, by go_num, by omega, by simp⟩
                case measure => simp [intOf]; omega
            · have d2 : decide ((j : Int) < (L1.length : Int)) = false := decide_eq_false (by omega)
              have hjl' : L1.take j = L1 := List.take_of_length_le (by omega)
              rw [hjl']
              clear hj hjl'
              go_wp2
              go_roundw
              case rel => exact ⟨i + 1, _, rfl, by go_num, by omega, HST2.out, B16⟩
              case measure => simp [intOf]; omega
        · have d1 : ((a : Int) != (k : Int)) = true := by rw [bne_iff_ne]; omega
          have HST := Lib.hid (HBK.out.skip hab hak)
          clear hab hab' hl' hak
          go_wp2
          go_roundw
          case rel => exact ⟨i + 1, v, rfl, by go_num, by omega, HST.out, Br⟩
          case measure => simp [intOf]; omega
      · have d0 : decide ((i : Int) < (m : Int)) = false := decide_eq_false (by omega)
        obtain rfl : v = true := HBK.out.all (by rw [HLEN.out]; omega) HCY.out
        go_wp2_with (fail)
        refine (SW.out _).mono ?_
        rintro x w6 ⟨rfl, B6⟩
        have B := below_trans Br B6
        go_wp2
        go_ret
        exact ⟨rfl, B⟩
theorem ahead_walk (n : Int) (A : Option Addr) (len cap : Nat) (L : List (Int × Int)) (w : World) (hl : L.length = len) (hL : Pairs w (.slice A len cap) L) (hg : ErrType w) :
    Calls Tryd.prog 5 #[.int .i64 n, .slice A len cap] w (TrueSaid w) := by
  subst hl
  by_cases h : hugeB n L.length = true ∨ chkF n L ≠ 0
  · exact ahead_easy n A cap L w hL h
  · rw [not_or] at h
    obtain ⟨h1, h3⟩ := h
    have h3 : chkF n L = 0 := Classical.byContradiction h3
    obtain ⟨M, E, rfl, rfl, hE, hN, hm⟩ := chkF_zero h3
    rw [castE_len] at h1 ⊢
    unfold hugeB at h1
    simp only [Bool.or_eq_true, Bool.and_eq_true, decide_eq_true_eq, not_or, not_and] at h1
    rw [castE_len] at hL
    exact ahead_main M A cap E w hL (by omega) (by omega) hE hg
end Go.Proofs.YtdgclggmemciaaaDoor
