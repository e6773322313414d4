/- Sort, walked. -/
import Derived.Test.YtbnnbhblfclomaaDoorK2
namespace Go.Proofs.YtbnnbhblfclomaaDoor
open Go.RowKit
set_option linter.unusedSimpArgs false
set_option linter.unusedVariables false
/-- What sort gives. -/
def SortSaid (E : Ways) (n : Nat) (W : World) (x : Ending) (w' : World) : Prop :=
  ∃ (o : List Nat) (dep : Nat → Nat) (ov : Value) (gd : Nat), Sorted E n o dep ∧ x = .returned (.tuple #[ov, .slice (some ⟨gd, 0, none⟩) n n, .bool (decide (o.length = n))]) ∧
    w'.ownsRow W.heap.size 3 1 ov o.length (nats o) ∧ W.heap.size ≤ gd ∧ Blk w' gd 3 (natsA n dep) ∧ Below W.heap.size W w'
theorem owns_form {w : World} {B : Nat} {v : Value} {n : Nat} {xs : List Value} (h : w.ownsRow B 3 1 v n xs) : ∃ A cap, v = .slice A n cap := by
  rcases h.2 with ⟨rfl, h0⟩ | ⟨g, cap, cur, rfl, _⟩
  · subst h0; exact ⟨_, _, rfl⟩
  · exact ⟨_, _, rfl⟩
theorem Gre.len {E : Ways} {n : Nat} {o : List Nat} (h : Gre E n o) : o.length ≤ n := by rw [← h.count]; exact cnt_le _ _
theorem inW_le (E : Ways) (o : List Nat) (y : Nat) : inW E o y ≤ E.length := List.countP_le_length
theorem KhIn.bd {E : Ways} {n : Nat} {o : List Nat} {x j : Nat} {many dep : Nat → Nat} {fr : List Nat} (h : KhIn E n o x j many dep fr) (y : Nat) : many y ≤ 2 * E.length := by
  rw [h.mny]
  have h1 := inW_le E (o ++ [x]) y
  have h2 : ((sideL E x).drop j).countP (· == y) ≤ ((sideL E x).drop j).length := List.countP_le_length
  rw [List.length_drop] at h2
  have h3 := sideL_len E x
  omega
set_option maxRecDepth 100000 in
set_option maxHeartbeats 2000000 in
theorem sort_walk (n : Nat) (v : Value) (E : Ways) (w : World) (hL : Pairs w v (castE E)) (hE : ∀ e, e ∈ E → e.1 < n ∧ e.2 < n) (hn : n ≤ 4096) (hm : E.length ≤ 1048576) :
    Calls Tryd.prog 35 #[.int .i64 n, v] w (SortSaid E n w) := by
  obtain ⟨i0, hi0, hz0, hz1, hz2⟩ := info_parts info3
  have SD := Lib.hid (sides_walk n v E w hL hE hn hm)
  have HM := fun W => make_walk n hn W
  obtain ⟨A, lcap, rfl, hbig, hp⟩ := hL
  rw [castE_len] at hp hbig SD ⊢
  have HPP := Lib.hid hp
  have HE := Lib.hid hE
  have n0 : (0 : Int) ≤ (n : Int) := by omega
  clear hp hE
  go_enter Tryd.func35, Tryd.ntmps35
  go_wp2_with (fail)
  refine SD.out.mono ?_
  rintro x w1 ⟨rfl, hS, B1⟩
  have HS := Lib.hid hS
  clear hS
  go_upto_region 2 with (fail)
  go_cut [8, 9] from 24 to 27 (fun mv dv wx => ∃ gm gd, mv = .slice (some ⟨gm, 0, none⟩) n n ∧ dv = .slice (some ⟨gd, 0, none⟩) n n ∧ w1.heap.size ≤ gm ∧ w1.heap.size ≤ gd ∧ gm ≠ gd ∧ Blk wx gm 3 (natsA n (fun _ => 0)) ∧ Blk wx gd 3 (natsA n (fun _ => 0)) ∧ Below w1.heap.size w1 wx)
  case first =>
    go_region
    · go_wp2
      go_meet
      case rel => exact ⟨_, _, rfl, rfl, by omega, by omega, by omega, (Blk.new _ _ _).alloc _, Blk.new1 _ _ _ _, below_al (below_al (below_drewN (Below.refl _ _) 1) _) _⟩
    · go_wp2
      go_meet
      case rel => exact ⟨_, _, rfl, rfl, by omega, by omega, by omega, Blk.new1 _ _ _ _, (Blk.new _ _ _).alloc _, below_al (below_al (below_drewN (Below.refl _ _) 1) _) _⟩
  case rest =>
    obtain ⟨gm, gd, rfl, rfl, lm, ld, md, hbm, hbd, B2⟩ := hcut
    have HB0 := Lib.hid hbm
    have HD0 := Lib.hid hbd
    clear SD HM hbm hbd
    generalize hm' : E.length = m at *
    go_upto_region 4 with (fail)
    go_loopw [30] (fun iv wr => ∃ k : Nat, iv = .int .i64 k ∧ k ≤ m ∧ Blk wr gm 3 (natsA n (fun y => (E.take k).countP (fun e => e.2 == y))) ∧ Blk wr gd 3 (natsA n (fun _ => 0)) ∧ Below w1.heap.size w1 wr) (fun iv _ => m - (intOf iv).toNat)
    case atStart => exact ⟨0, rfl, Nat.zero_le _, by simpa using HB0.out, HD0.out, B2⟩
    case round =>
      obtain ⟨k, rfl, hk, hbm, hbd, Br⟩ := hrel
      by_cases hkm : k < m
      · have d1 : decide ((k : Int) < (m : Int)) = true := decide_eq_true (by omega)
        obtain ⟨ad, rfl, hl, hc⟩ := HPP.out (by omega)
        obtain ⟨y0, y1⟩ := hc k hkm
        obtain ⟨⟨a, b⟩, hab⟩ : ∃ e, E[k]? = some e := ⟨_, List.getElem?_eq_getElem (by omega)⟩
        have hmem := List.mem_of_getElem? hab
        rw [castE_get hab] at y0 y1
        have hab' := HE.out _ hmem
        have Bw := B1.trans (Br.mono B1.size)
        have e1 : ∀ o p, (⟨(ad.add (k * 2)).block, o, p⟩ : Addr).block < w.heap.size := fun o p => by show (ad.add (k * 2)).block < w.heap.size; rw [add_block]; exact hl
        have x0 := (Bw.cell (p := ad.add (k * 2)) (by rw [add_block]; exact hl)).trans y0
        have x1 := (Bw.cell (e1 _ _)).trans y1
        have k0 : (0 : Int) ≤ k := by omega
        have k1 : (k : Int) < m := by omega
        have hcb : (E.take k).countP (fun e => e.2 == b) ≤ k := Nat.le_trans List.countP_le_length (List.length_take_le _ _)
        have hupd := Lib.hid (fun y => cnt_take E k a b y hab)
        clear hc y0 y1 e1 hmem hab
        have hx := Blk.new wr 55 #[.int .i64 (a : Int), .int .i64 (b : Int)]
        have Bx := Br.alloc Br.size (.cells #[.int .i64 (a : Int), .int .i64 (b : Int)] 55)
        have hbm1 := hbm.alloc (.cells #[.int .i64 (a : Int), .int .i64 (b : Int)] 55)
        have hbd1 := hbd.alloc (.cells #[.int .i64 (a : Int), .int .i64 (b : Int)] 55)
        clear hbm hbd
        go_upto_region 6 with (fail)
        generalize hW1 : wr.alloc (.cells #[.int .i64 (a : Int), .int .i64 (b : Int)] 55) = W1 at *
        generalize hbx : wr.heap.size = bx at *
        have c1 : W1.cell? ⟨bx, 1, none⟩ = some (.int .i64 (b : Int)) := by rw [hx.cell]; rfl
        have zx := hx.lt
        have c2 : W1.cell? ⟨gm, b, none⟩ = some (.int .i64 (((E.take k).countP (fun e => e.2 == b) : Nat) : Int)) := by rw [hbm1.cell, natsA_get _ hab'.2]
        have f2 := hbm1.frozen b
        have zm := hbm1.lt
        have b0 : (0 : Int) ≤ (b : Int) := by omega
        have b1 : (b : Int) < (n : Int) := by have := hab'.2; omega
        generalize hcbe : (E.take k).countP (fun e => e.2 == b) = cb at *
        have hput := hbm1.put b (.int .i64 ((cb + 1 : Nat) : Int)) (natsA_set n b (cb + 1) _)
        rw [natsA_congr (fun x _ => (hupd.out x).symm)] at hput
        have hputd := hbd1.far (p := ⟨gm, b, none⟩) (Ne.symm md) (.int .i64 ((cb + 1 : Nat) : Int))
        have Bp := below_put (p := ⟨gm, b, none⟩) Bx lm (.int .i64 ((cb + 1 : Nat) : Int))
        have HP1 := Lib.hid hput
        have HP2 := Lib.hid hputd
        have hcast : (((cb + 1 : Nat)) : Int) = (cb : Int) + 1 := by omega
        rw [hcast] at HP1 HP2 Bp
        clear hx hbm1 hbd1 hput hputd hcbe hW1 hbx hcast x0 x1
        go_wp2
        go_roundw
        case rel => exact ⟨k + 1, by go_num, by omega, HP1.out, HP2.out, Bp⟩
        case measure => simp [intOf]; omega
      · have d1 : decide ((k : Int) < (m : Int)) = false := decide_eq_false (by omega)
        have hkm' : k = m := by omega
        subst hkm'
        have hct : ∀ y, (E.take k).countP (fun e => e.2 == y) = E.countP (fun e => e.2 == y) := fun y => by rw [List.take_of_length_le (by omega)]
        rw [natsA_congr (fun x _ => hct x)] at hbm
        have HM1 := Lib.hid hbm
        have HD1 := Lib.hid hbd
        clear hct hbm hbd
        have HK := Lib.hid (Kh.init E n)
        generalize hmf : (fun y => E.countP (fun e => e.2 == y)) = mf at *
        have hmf' : (fun y => E.countP (fun e => e.2 == y) == 0) = (fun y => mf y == 0) := by rw [← hmf]
        rw [hmf'] at HK
        clear hmf hmf'
        go_upto_region 10 with (fail)
        go_loopw [12, 44] (fun fv iv wr => ∃ j : Nat, iv = .int .i64 j ∧ j ≤ n ∧ wr.ownsRow w1.heap.size 3 1 fv ((List.range j).filter (fun y => mf y == 0)).length (nats ((List.range j).filter (fun y => mf y == 0))) ∧ fv.ownBlock ≠ some gm ∧ fv.ownBlock ≠ some gd ∧ Blk wr gm 3 (natsA n mf) ∧ Blk wr gd 3 (natsA n (fun _ => 0)) ∧ Below w1.heap.size w1 wr) (fun _ iv _ => n - (intOf iv).toNat)
        case atStart => exact ⟨0, rfl, Nat.zero_le _, World.ownsRow_nil _ _ _ _, by simp [Value.ownBlock], by simp [Value.ownBlock], HM1.out, HD1.out, Br⟩
        case round =>
          clear HM1 HD1 Br
          obtain ⟨j, rfl, hj, hv, hvm, hvd, hbm, hbd, Br⟩ := hrel
          have hfl := filt_len (fun y => mf y == 0) j
          by_cases hjn : j < n
          · have d2 : decide ((j : Int) < (n : Int)) = true := decide_eq_true (by omega)
            have c1 : wr.cell? ⟨gm, j, none⟩ = some (.int .i64 ((mf j : Nat) : Int)) := by rw [hbm.cell, natsA_get _ hjn]
            have j0 : (0 : Int) ≤ (j : Int) := by omega
            have j1 : (j : Int) < (n : Int) := by omega
            have hfs := filt_succ (fun y => mf y == 0) j
            have HBm := Lib.hid hbm
            have HBd := Lib.hid hbd
            have hva := hv.alloc (.cells #[.int .i64 (j : Int)] 3)
            have HV := Lib.hid hv
            clear hv hbm hbd
            by_cases hz : mf j = 0
            · rw [if_pos (by simp [hz])] at hfs
              rw [hz] at c1
              have HFS := Lib.hid hfs
              clear hfs hz
              generalize hl : (List.range j).filter (fun y => mf y == 0) = l at *
              clear hl
              have hn1 : ∀ u ∈ [Value.int .i64 (j : Int)], u.oneCell' = true := by simp [Value.oneCell']
              have hsz4 : w1.heap.size ≤ (wr.alloc (.cells #[.int .i64 (j : Int)] 3)).heap.size := by have := Br.size; simp; omega
              have hnw := Lib.hid (nats_news wr j 3)
              go_wp2_with (at_builtin; refine wpList_append_own_at _ rfl _ _ 26 rfl w1.heap.size 3 i0 (.int .i64 0) 1 8 Tryd.underlying26 hi0 hz0 hz1 hz2 rfl (by decide) u12 l.length (nats l) rfl hva ⟨wr.heap.size, 0, none⟩ 1 1 [.int .i64 (j : Int)] rfl rfl hnw.out hn1 (by simp only [maxLen]; omega) (by omega) hsz4 ?_; intro v3 w4 own4 gr4 nil4 at4)
              have hl4 : l.length + 1 = (l ++ [j]).length := by simp
              rw [← nats_snoc, hl4, ← HFS.out] at own4
              have hgm := HBm.out.lt
              have hgd := HBd.out.lt
              have hm4 : v3.ownBlock ≠ some gm := by
                rcases at4 with c | c
                · rw [c]; exact hvm
                · rw [c]; simp; omega
              have hd4 : v3.ownBlock ≠ some gd := by
                rcases at4 with c | c
                · rw [c]; exact hvd
                · rw [c]; simp; omega
              have hbm4 : Blk w4 gm 3 (natsA n mf) := (gr4.block gm (by simp; omega) (Ne.symm hvm)).trans (HBm.out.alloc _)
              have hbd4 : Blk w4 gd 3 (natsA n (fun _ => 0)) := (gr4.block gd (by simp; omega) (Ne.symm hvd)).trans (HBd.out.alloc _)
              have B4 := below_grown (Br.alloc Br.size _) gr4 (fun e he => (HV.out.lt e he).1) hsz4
              have HV4 := Lib.hid own4
              have HM4 := Lib.hid hbm4
              have HD4 := Lib.hid hbd4
              clear own4 hbm4 hbd4 gr4 nil4 at4 hva hl4
              go_wp2
              go_roundw
              case rel => exact ⟨j + 1, by go_num, by omega, HV4.out, hm4, hd4, HM4.out, HD4.out, B4⟩
              case measure => simp [intOf]; omega
            · rw [if_neg (by simp [hz]), List.append_nil] at hfs
              have HFS := Lib.hid hfs
              have d3 : (((mf j : Nat) : Int) == 0) = false := by simp [hz]
              clear hfs hva hz
              go_wp2
              go_roundw
              case rel => exact ⟨j + 1, by go_num, by omega, by rw [HFS.out]; exact HV.out, hvm, hvd, HBm.out, HBd.out, Br⟩
              case measure => simp [intOf]; omega
          · have d2 : decide ((j : Int) < (n : Int)) = false := decide_eq_false (by omega)
            have hjn' : n = j := by omega
            subst hjn'
            have K0 : KW w1 gm gd n mf (fun _ => 0) u12 ((List.range n).filter (fun y => mf y == 0)) (.slice none 0 0) [] wr :=
              ⟨Br, lm, ld, md, hbm, hbd, FRow.of_owns hv, World.ownsRow_nil _ _ _ _, hvm, hvd, by simp [Value.ownBlock], by simp [Value.ownBlock], fun k _ => by simp [Value.ownBlock]⟩
            have HW := Lib.hid K0
            clear hv hbm hbd K0 hvm hvd
            go_upto_region 15 with (fail)
            go_loopg [12, 13] n (fun gh fv ov wr => ∃ (o : List Nat) (many dep : Nat → Nat) (fr : List Nat), Kh E n o many dep fr ∧ KW w1 gm gd n many dep fv fr ov o wr ∧ n ≤ gh + o.length)
            case atStart => exact ⟨[], mf, _, _, HK.out, HW.out, by simp⟩
            case round =>
              clear HK HW
              obtain ⟨o, many, dep, fr, hK, hW, hgh⟩ := hrel
              have HK := Lib.hid hK
              have HW := Lib.hid hW
              clear hK hW
              cases fr with
              | nil =>
                obtain ⟨A, cap, rfl⟩ := HW.out.f.len0
                have hfin := Lib.hid (HK.out.end)
                obtain ⟨A2, cap2, rfl⟩ := owns_form HW.out.o
                have d4 : ((o.length : Int) == (n : Int)) = decide (o.length = n) := by
                  by_cases c : o.length = n
                  · simp [c]
                  · rw [decide_eq_false c, beq_eq_false_iff_ne]; omega
                have Bfin := B1.trans (HW.out.b.mono B1.size)
                go_wp2
                go_ret3
                exact ⟨o, dep, _, gd, hfin.out, rfl, owns_low HW.out.o B1.size, Nat.le_trans B1.size ld, HW.out.d, Bfin⟩
              | cons x r =>
                obtain ⟨g, o1, cap, rfl, hBg, hgl⟩ := HW.out.f.form
                obtain ⟨c1, hrc, hcm, hpop⟩ := HW.out.f.pop
                have d3 : (0 : Int) < ((r.length + 1 : Nat) : Int) := by omega
                have HPOP := Lib.hid hpop
                have hcm' : cap ≤ 9223372036854775807 := by have := hcm; simp only [maxLen] at this; omega
                clear hpop
                go_upto_region 17 with (fail)
                go_cut [12] from 62 to 63 (fun fv wx => FRow wr w1.heap.size fv r ∧ fv.ownBlock = some g ∧ wx = wr)
                case first =>
                  have hf := HPOP.out
                  by_cases hc1 : cap = 1
                  · rw [if_pos hc1, show cap - 1 = 0 by omega] at hf
                    have HF := Lib.hid hf
                    clear hf
                    go_wp2
                    go_meet
                    case rel => exact ⟨HF.out, rfl, rfl⟩
                  · rw [if_neg hc1] at hf
                    have HF := Lib.hid hf
                    clear hf
                    go_wp2
                    go_meet
                    case rel => exact ⟨HF.out, rfl, rfl⟩
                case rest =>
                  obtain ⟨hf1, hf2, rfl⟩ := hcut
                  have hpop2 := HK.out.pop
                  have hxn : x < n := hpop2.gre.inv.2.1.1
                  have hol := Lib.hid hpop2.gre.len
                  have hsh := (HW.out.setF (World.grownBy.refl _ _) hf1 (.inl hf2)).alloc (.cells #[.int .i64 (x : Int)] 3)
                  have hn1 : ∀ u ∈ [Value.int .i64 (x : Int)], u.oneCell' = true := by simp [Value.oneCell']
                  have hsz4 := hsh.b.size
                  have hova := hsh.o
                  have hol2 : o.length ≤ 4096 := by have := HK.out.gre.len; omega
                  have HWS := Lib.hid hsh
                  have HKP := Lib.hid hpop2
                  generalize hwx : wc = wx at *
                  clear hwx
                  have hnw := Lib.hid (nats_news wx x 3)
                  clear hpop2 hsh c1 hrc hcm hf1 hf2 HPOP HK HW hcm'
                  go_upto_region 19 with (at_builtin; refine wpList_append_own_at _ rfl _ _ 26 rfl w1.heap.size 3 i0 (.int .i64 0) 1 8 Tryd.underlying26 hi0 hz0 hz1 hz2 rfl (by decide) u13 o.length (nats o) rfl hova ⟨wx.heap.size, 0, none⟩ 1 1 [.int .i64 (x : Int)] rfl rfl hnw.out hn1 (by simp only [maxLen]; omega) (by omega) hsz4 ?_; intro v3 w4 own4 gr4 nil4 at4)
                  have hl4 : (o ++ [x]).length = o.length + 1 := by simp
                  rw [← nats_snoc, ← hl4] at own4
                  have hW4 := HWS.out.pushO gr4 own4 at4
                  obtain ⟨vv, hvv, hR⟩ := HS.out.2 x hxn
                  obtain ⟨A2, cap2, rfl, hA2⟩ := hR
                  have hsow := HS.out.1
                  have cvv := (hW4.b.cell (p := ⟨w.heap.size, x, none⟩) hsow).trans hvv
                  have zso : w.heap.size < w4.heap.size := Nat.lt_of_lt_of_le hsow hW4.b.size
                  have HA2 := Lib.hid hA2
                  have HW4 := Lib.hid hW4
                  have x0 : (0 : Int) ≤ (x : Int) := by omega
                  have x1 : (x : Int) < (n : Int) := by omega
                  have hsl := sideL_len E x
                  have hslm : ((sideL E x).length : Int) ≤ 1048576 := by omega
                  clear hA2 hW4 hvv own4 gr4 nil4 at4 hl4 hova HWS hnw
                  go_upto_region 20 with (fail)
                  generalize hsx : (sideL E x).length = sx at *
                  have HSX := Lib.hid hsx
                  clear hsx
                  obtain ⟨wo, rfl⟩ : ∃ wo : World, wo = w4 := ⟨_, rfl⟩
                  go_loopw [12, 73] (fun fv iv wr => ∃ (j : Nat) (many dep : Nat → Nat) (fr : List Nat), iv = .int .i64 j ∧ j ≤ sx ∧ KhIn E n o x j many dep fr ∧ KW w1 gm gd n many dep fv fr v3 (o ++ [x]) wr) (fun _ iv _ => sx - (intOf iv).toNat)
                  case atStart => exact ⟨0, _, _, _, rfl, Nat.zero_le _, HKP.out, HW4.out⟩
                  case round =>
                    clear HKP HW4 cvv zso
                    obtain ⟨j, many, dep, fr, rfl, hj, hI, hW⟩ := hrel
                    have HI := Lib.hid hI
                    have HW := Lib.hid hW
                    clear hI hW
                    by_cases hjs : j < sx
                    · have d5 : decide ((j : Int) < (sx : Int)) = true := decide_eq_true (by omega)
                      obtain ⟨y, hy⟩ : ∃ y, (sideL E x)[j]? = some y := ⟨_, List.getElem?_eq_getElem (by rw [HSX.out]; omega)⟩
                      rcases HA2.out with ⟨_, _, hnil⟩ | ⟨gs, os, rfl, hgs, hcs⟩
                      · rw [hnil] at hy; simp at hy
                      have cy := (HW.out.b.cell (p := ⟨gs, os + j, none⟩) hgs).trans (hcs j y hy)
                      have hE2 := HE.out _ (mem_sideL.1 (List.mem_of_getElem? hy))
                      have hyn : y < n := hE2.2
                      obtain ⟨hm1, hI2⟩ := HI.out.step HE.out hy
                      have hmb := HI.out.bd y
                      have hfrl := sorted_len n fr 0 HI.out.sorted (fun z hz => ⟨Nat.zero_le _, ((HI.out.free z).1 hz).1⟩)
                      have HSRT := Lib.hid HI.out.sorted
                      have cdy : wr.cell? ⟨gd, y, none⟩ = some (.int .i64 ((dep y : Nat) : Int)) := by rw [HW.out.d.cell, natsA_get _ hyn]
                      have cdx : wr.cell? ⟨gd, x, none⟩ = some (.int .i64 ((dep x : Nat) : Int)) := by rw [HW.out.d.cell, natsA_get _ hxn]
                      have fdy := HW.out.d.frozen y
                      have zgd := HW.out.d.lt
                      have hdy := HI.out.le y
                      have hdx := HI.out.le x
                      have y0 : (0 : Int) ≤ (y : Int) := by omega
                      have y1 : (y : Int) < (n : Int) := by omega
                      have j0 : (0 : Int) ≤ (j : Int) := by omega
                      have j1 : (j : Int) < (sx : Int) := by omega
                      have HI2 := Lib.hid hI2
                      clear hI2 hy hcs hE2
                      go_upto_region 22 with (fail)
                      go_region
                      go_upto_region 23 with (fail)
                      have hcd : ((max (dep y) (dep x + 1) : Nat) : Int) = max ((dep y : Nat) : Int) (((dep x : Nat) : Int) + 1) := by omega
                      have hW3 := (HW.out.putD y (max (dep y) (dep x + 1))).drewN 1
                      rw [hcd] at hW3
                      generalize hW3e : (wr.setCell ⟨gd, y, none⟩ (.int .i64 (max ((dep y : Nat) : Int) (((dep x : Nat) : Int) + 1)))).drew = W3 at *
                      replace hW3 : KW w1 gm gd n many (updN dep y (max (dep y) (dep x + 1))) u12 fr v3 (o ++ [x]) W3 := hW3e ▸ hW3
                      have cmy : W3.cell? ⟨gm, y, none⟩ = some (.int .i64 ((many y : Nat) : Int)) := by rw [hW3.m.cell, natsA_get _ hyn]
                      have fmy := hW3.m.frozen y
                      have zgm := hW3.m.lt
                      have hcm2 : ((many y - 1 : Nat) : Int) = ((many y : Nat) : Int) - 1 := by omega
                      have hW4 := hW3.putM y (many y - 1)
                      rw [hcm2] at hW4
                      have HW4 := Lib.hid hW4
                      have hm1' : (1 : Int) ≤ ((many y : Nat) : Int) := by omega
                      have hmb' : ((many y : Nat) : Int) ≤ 2097152 := by omega
                      clear hcd hW3 hcm2 hW4 hW3e cdy cdx fdy cy HW HI
                      go_upto_region 24 with (fail)
                      generalize hW4e : W3.setCell ⟨gm, y, none⟩ (.int .i64 (((many y : Nat) : Int) - 1)) = W4 at *
                      clear hW4e cmy fmy
                      have cmz : W4.cell? ⟨gm, y, none⟩ = some (.int .i64 ((many y - 1 : Nat) : Int)) := by rw [HW4.out.m.cell, natsA_get _ hyn, updN_self]
                      have zgm4 := HW4.out.m.lt
                      by_cases hmy : many y = 1
                      · have hfr : fr.length ≤ 1048576 := by omega
                        rw [if_pos hmy] at HI2
                        rw [hmy] at cmz
                        have SK := Lib.hid (seek_walk W4 w1.heap.size u12 fr y HW4.out.f HSRT.out hfr)
                        have hii := insAt_le y fr
                        clear hmy
                        go_wp2_with (fail)
                        refine SK.out.mono ?_
                        rintro e W5 ⟨sb, q, rfl, rfl⟩
                        have hW6 := (HW4.out.drewN q).alloc (.cells #[.int .i64 (y : Int)] 3)
                        have hbx := Blk.new (W4.drewN q) 3 #[.int .i64 (y : Int)]
                        have hne : u12.ownBlock ≠ some (W4.drewN q).heap.size := fun c => by have := (HW4.out.f.lt _ c).2; exact Nat.lt_irrefl _ this
                        have INS := Lib.hid (insert_walk _ w1.heap.size u12 fr y (insAt y fr) _ hW6.f hii hbx hne hW6.b.size hfr)
                        have HW6 := Lib.hid hW6
                        generalize hia : insAt y fr = ia at *
                        clear hW6 hbx hne SK
                        go_wp2_with (fail)
                        refine INS.out.mono ?_
                        rintro e W7 ⟨v7, rfl, hF7, hg7, ha7⟩
                        have hW7 := Lib.hid (HW6.out.setF hg7 hF7 ha7)
                        have HI7 : KhIn E n o x (j + 1) (updN many y (many y - 1)) (updN dep y (max (dep y) (dep x + 1))) (fr.take ia ++ y :: fr.drop ia) := by
                          have := HI2.out
                          unfold insL at this
                          rw [hia] at this
                          exact this
                        have HI8 := Lib.hid HI7
                        clear HI7 hF7 hg7 ha7 INS HI2 hia
                        go_wp2
                        go_roundw
                        case rel => exact ⟨j + 1, _, _, _, by go_num, by omega, HI8.out, hW7.out⟩
                        case measure => simp [intOf]; omega
                      · have d6 : (((many y - 1 : Nat) : Int) == 0) = false := by rw [beq_eq_false_iff_ne]; omega
                        rw [if_neg hmy] at HI2
                        clear hmy
                        go_wp2
                        go_roundw
                        case rel => exact ⟨j + 1, _, _, _, by go_num, by omega, HI2.out, HW4.out⟩
                        case measure => simp [intOf]; omega
                    · have d5 : decide ((j : Int) < (sx : Int)) = false := decide_eq_false (by omega)
                      have hdn := Lib.hid (HI.out.done (by rw [HSX.out]; omega))
                      have hlen := HI.out.gre.len
                      rw [List.length_append, List.length_singleton] at hlen
                      go_wp2
                      go_roundg (gk - 1)
                      case measure => omega
                      case rel => exact ⟨o ++ [x], many, dep, fr, hdn.out, HW.out, by simp; omega⟩
end Go.Proofs.YtbnnbhblfclomaaDoor
