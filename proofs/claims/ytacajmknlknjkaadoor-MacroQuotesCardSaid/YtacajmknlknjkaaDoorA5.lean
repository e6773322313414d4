/- macro.Expand, walked. -/
import Derived.Test.YtacajmknlknjkaaDoorA4
namespace Go.Proofs.YtacajmknlknjkaaDoor
open Go.RowKit
set_option linter.unusedVariables false
def ExpSaid (L : List Mc) (s : ByteArray) (w : World) (y : Ending) (w' : World) : Prop :=
  (∃ z : ByteArray, y = .returned (.tuple #[.string z, errE (expE L s.data.toList)]) ∧ z.data.toList = expO L s.data.toList) ∧ Below w.heap.size w w'
set_option maxRecDepth 100000 in
set_option maxHeartbeats 2000000 in
theorem expand_walk (s : ByteArray) (v : Value) (L : List Mc) (w : World) (m : Int) (hm : w.cell? ⟨1, 0, none⟩ = some (.int .i64 m)) (hL : RdM w v w.heap.size L) (hl : L.length ≤ 9223372036854775807) (hs : s.size ≤ 9223372036854775807) :
    Calls Tryd.prog 10 #[.string s, v] w (ExpSaid L s w) := by
  obtain ⟨A, cap, rfl⟩ := hL.form
  have HI := Lib.hid hL
  have hsl := sz_len s
  by_cases h1 : 65536 < s.size
  · have PW := Lib.hid (parts_long s w h1 hs)
    have HE := Lib.hid (show expE L s.data.toList = 2 by unfold expE; rw [if_pos (by omega)])
    clear hm hL hsl
    go_enter Tryd.func10, Tryd.ntmps10
    go_wp2_with (fail)
    refine PW.out.mono ?_
    rintro y w2 ⟨rfl, rfl⟩
    clear PW
    go_wp2_with (fail)
    go_ret2
    exact ⟨⟨_, by rw [HE.out]; rfl, by unfold expO; rw [HE.out]; rfl⟩, Below.refl _ _⟩
  by_cases h2 : s.data.toList.count 36 % 2 = 1
  · have PW := Lib.hid (parts_form s w m hm (by omega) h2)
    have HE := Lib.hid (show expE L s.data.toList = 3 by unfold expE; rw [if_neg (by omega), if_pos h2])
    clear hm hL hsl
    go_enter Tryd.func10, Tryd.ntmps10
    go_wp2_with (fail)
    refine PW.out.mono ?_
    rintro y w2 ⟨rfl, B2⟩
    clear PW
    go_wp2_with (fail)
    go_ret2
    exact ⟨⟨_, by rw [HE.out]; rfl, by unfold expO; rw [HE.out]; rfl⟩, B2⟩
  have PW := Lib.hid (parts_ok s w m hm (by omega) (by omega))
  have EP := Lib.hid (exp_pcs L s.data.toList (by omega))
  have HE := Lib.hid (show expE L s.data.toList = if 65536 < (expB L s.data.toList).length then 2 else 0 by unfold expE; rw [if_neg (by omega), if_neg h2])
  have hpl := pcs_len s.data.toList
  have hcl := List.count_le_length (a := (36 : UInt8)) (l := s.data.toList)
  have HSZ := Lib.hid (show (pcs s.data.toList).length ≤ 65537 by omega)
  clear hm hL hsl h1 h2 hpl hcl
  go_enter Tryd.func10, Tryd.ntmps10
  go_wp2_with (fail)
  refine PW.out.mono ?_
  rintro y w1 ⟨ps, hps, rfl, rfl⟩
  have hN : ps.length ≤ 65537 := by have := HSZ.out; rw [← hps, List.length_map] at this; exact this
  have EP2 := EP.out
  rw [← hps, List.length_map] at EP2
  have HEP := Lib.hid EP2
  have B1 := Lib.hid (below_al (Below.refl w.heap.size w) (.cells (ps.map Value.string).toArray 9))
  have hPB : Blk (w.alloc (.cells (ps.map Value.string).toArray 9)) w.heap.size 9 (ps.map Value.string).toArray := Blk.new w 9 _
  have HI1 := Lib.hid ((HI.out.below B1.out (Nat.le_refl _)).wider (show w.heap.size ≤ (w.alloc (.cells (ps.map Value.string).toArray 9)).heap.size by simp))
  have HPB := Lib.hid hPB
  have hsz1 := Lib.hid (show w.heap.size ≤ (w.alloc (.cells (ps.map Value.string).toArray 9)).heap.size by simp)
  have hpb := hPB.lt
  clear PW HSZ HI EP EP2 hPB
  generalize w.alloc (Obj.cells (ps.map Value.string).toArray 9) = w1 at *
  generalize hgp : w.heap.size = gp at *
  have BN := Lib.hid (bld_new w1)
  have B2 := Lib.hid (below_al (Below.refl w1.heap.size w1) (.cells #[.pointer none, .slice none 0 0] 53))
  have HPS := Lib.hid hps
  clear hps
  go_upto_region 6 with (fail)
  go_loopw [9, 10, 21] (fun _ _ iv wr => ∃ i : Nat, iv = .int .i64 i ∧ i ≤ ps.length ∧ Bld wr w1.heap.size w1.heap.size (outN L (ps.map (·.data.toList)) 0 i) ∧ (outN L (ps.map (·.data.toList)) 0 i).length ≤ 65536 ∧ Below w1.heap.size w1 wr) (fun _ _ iv _ => ps.length - (intOf iv).toNat)
  case atStart => exact ⟨0, rfl, Nat.zero_le _, BN.out, by simp [outN], B2.out⟩
  case round =>
    obtain ⟨i, rfl, hi, hb, ho, bel⟩ := hrel
    have i0 : (0 : Int) ≤ i := by omega
    have BEL := Lib.hid bel
    have HB := Lib.hid hb
    have HO := Lib.hid ho
    clear bel hb ho
    by_cases hlt : i < ps.length
    · have hlt' : (i : Int) < (ps.length : Int) := by omega
      have c0 : wr.cell? ⟨gp, i, none⟩ = some (.string (ps.getD i ByteArray.empty)) := by
        refine bel_cell BEL.out ?_
        rw [HPB.out.cell]
        simp [List.getD_eq_getElem?_getD, hlt]
      have z0 := World.block_lt_of_cell? _ _ c0
      have HS := Lib.hid (outN_succ L (ps.map (·.data.toList)) 0 i)
      have HP2 := Lib.hid (show (ps.map (·.data.toList)).getD i [] = (ps.getD i ByteArray.empty).data.toList by simp [List.getD_eq_getElem?_getD, hlt])
      have HLE := Lib.hid (outN_le L (ps.map (·.data.toList)) 0 (show i + 1 ≤ ps.length by omega))
      generalize ps.getD i ByteArray.empty = p at *
      have VW := Lib.hid (value_walk p (.slice A L.length cap) L wr ((HI1.out.below BEL.out (Nat.le_refl _)).wider BEL.out.size) hl)
      have key : ∀ (z : ByteArray) (wz : World), z.data.toList = pieceF L i p.data.toList → Below w1.heap.size w1 wz → Bld wz w1.heap.size w1.heap.size (outN L (ps.map (·.data.toList)) 0 i) → outN L (ps.map (·.data.toList)) 0 (i + 1) = outN L (ps.map (·.data.toList)) 0 i ++ z.data.toList := fun z wz h1 _ _ => by
        rw [HS.out, HP2.out, h1, Nat.zero_add]
      have KEY := Lib.hid key
      clear key
      rcases Nat.mod_two_eq_zero_or_one i with hm | hm
      · have hmd : (i : Int) % 2 = 0 := by omega
        have HZ := Lib.hid (show p.data.toList = pieceF L i p.data.toList by unfold pieceF; rw [if_neg (by omega)])
        clear VW hm
        go_upto_region 10 with (fail)
        clear c0 z0 hmd
        have HA := Lib.hid (KEY.out p wr HZ.out BEL.out HB.out)
        have LW := Lib.hid (bld_len HB.out)
        have hzl := sz_len p
        generalize outN L (ps.map (·.data.toList)) 0 i = oi at *
        have HO2 := HO.out
        go_wp2_with (fail)
        refine LW.out.mono ?_
        rintro y w3 ⟨rfl, rfl⟩
        clear LW
        have hw0 : wrap64 ((65536 : Int) - (oi.length : Int)) = (65536 : Int) - (oi.length : Int) := w64 (by omega) (by omega)
        have hw1 : IntKind.i64.wrap ((65536 : Int) - (oi.length : Int)) = (65536 : Int) - (oi.length : Int) := by rw [IntKind.wrap_i64]; omega
        by_cases hbig : 65536 < oi.length + p.size
        · have hbig' : (65536 : Int) - (oi.length : Int) < (p.size : Int) := by omega
          have HF := Lib.hid (show expE L s.data.toList = 2 by have h1 := HLE.out; have h2 := HA.out; rw [h2, List.length_append, hzl] at h1; rw [HE.out, HEP.out, if_pos (by omega)])
          have B5 := Lib.hid (B1.out.trans (BEL.out.mono (by have := hsz1.out; omega)))
          clear HB
          go_wp2_with (fail)
          go_ret2
          exact ⟨⟨_, by rw [HF.out]; rfl, by unfold expO; rw [HF.out]; rfl⟩, by first | exact B5.out | exact hgp ▸ B5.out⟩
        · have hbig' : ¬ (65536 : Int) - (oi.length : Int) < (p.size : Int) := by omega
          have WW := Lib.hid (bld_write p HB.out (by omega) BEL.out.size)
          clear HB
          go_wp2_with (fail)
          refine WW.out.mono ?_
          rintro y w4 ⟨rfl, hb4, B4⟩
          have HB4 := Lib.hid hb4
          have BEL4 := Lib.hid (BEL.out.trans B4)
          have HO4 := Lib.hid (show (oi ++ p.data.toList).length ≤ 65536 by rw [List.length_append, hzl]; omega)
          clear WW hb4 B4 hw0 hw1 hbig' hbig hzl HO2
          go_wp2_with (fail)
          go_roundw
          case rel => exact ⟨i + 1, by go_num, by omega, by rw [HA.out]; exact HB4.out, by rw [HA.out]; exact HO4.out, BEL4.out⟩
          case measure => simp [intOf]; omega
      · have hmd : (i : Int) % 2 = 1 := by omega
        have HZ := Lib.hid (show pieceF L i p.data.toList = valB L p.data.toList by unfold pieceF; rw [if_pos hm])
        clear hm
        go_wp2_with (fail)
        refine VW.out.mono ?_
        rintro y w2 ⟨⟨z, rfl, hz⟩, B6⟩
        have hzz := Lib.hid (hz.trans HZ.out.symm)
        have BEL2 := Lib.hid (BEL.out.trans (B6.mono BEL.out.size))
        have HB2 := Lib.hid (HB.out.below B6)
        clear VW c0 z0 hmd hz B6 HB BEL
        have HA := Lib.hid (KEY.out z w2 hzz.out BEL2.out HB2.out)
        have LW := Lib.hid (bld_len HB2.out)
        have hzl := sz_len z
        generalize outN L (ps.map (·.data.toList)) 0 i = oi at *
        have HO2 := HO.out
        go_wp2_with (fail)
        refine LW.out.mono ?_
        rintro y w3 ⟨rfl, rfl⟩
        clear LW
        have hw0 : wrap64 ((65536 : Int) - (oi.length : Int)) = (65536 : Int) - (oi.length : Int) := w64 (by omega) (by omega)
        have hw1 : IntKind.i64.wrap ((65536 : Int) - (oi.length : Int)) = (65536 : Int) - (oi.length : Int) := by rw [IntKind.wrap_i64]; omega
        by_cases hbig : 65536 < oi.length + z.size
        · have hbig' : (65536 : Int) - (oi.length : Int) < (z.size : Int) := by omega
          have HF := Lib.hid (show expE L s.data.toList = 2 by have h1 := HLE.out; have h2 := HA.out; rw [h2, List.length_append, hzl] at h1; rw [HE.out, HEP.out, if_pos (by omega)])
          have B5 := Lib.hid (B1.out.trans (BEL2.out.mono (by have := hsz1.out; omega)))
          clear HB2
          go_wp2_with (fail)
          go_ret2
          exact ⟨⟨_, by rw [HF.out]; rfl, by unfold expO; rw [HF.out]; rfl⟩, by first | exact B5.out | exact hgp ▸ B5.out⟩
        · have hbig' : ¬ (65536 : Int) - (oi.length : Int) < (z.size : Int) := by omega
          have WW := Lib.hid (bld_write z HB2.out (by omega) BEL2.out.size)
          clear HB2
          go_wp2_with (fail)
          refine WW.out.mono ?_
          rintro y w4 ⟨rfl, hb4, B4⟩
          have HB4 := Lib.hid hb4
          have BEL4 := Lib.hid (BEL2.out.trans B4)
          have HO4 := Lib.hid (show (oi ++ z.data.toList).length ≤ 65536 by rw [List.length_append, hzl]; omega)
          clear WW hb4 B4 hw0 hw1 hbig' hbig hzl HO2
          go_wp2_with (fail)
          go_roundw
          case rel => exact ⟨i + 1, by go_num, by omega, by rw [HA.out]; exact HB4.out, by rw [HA.out]; exact HO4.out, BEL4.out⟩
          case measure => simp [intOf]; omega
    · obtain rfl : i = ps.length := by omega
      have BS := Lib.hid (bld_string HB.out BEL.out.size)
      have HF := Lib.hid (show expE L s.data.toList = 0 by rw [HE.out, HEP.out, if_neg (by have := HO.out; omega)])
      have hEP := HEP.out
      clear HB
      go_wp2_with (fail)
      refine BS.out.mono ?_
      rintro y w3 ⟨rfl, B3⟩
      have B5 := B1.out.trans ((BEL.out.trans B3).mono (by have := hsz1.out; omega))
      go_wp2
      go_ret2
      refine ⟨⟨_, by rw [HF.out]; rfl, ?_⟩, by first | exact B5 | exact hgp ▸ B5⟩
      unfold expO
      rw [HF.out, if_pos rfl, HEP.out]
end Go.Proofs.YtacajmknlknjkaaDoor
