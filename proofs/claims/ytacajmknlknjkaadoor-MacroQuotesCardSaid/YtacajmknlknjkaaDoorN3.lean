/- texts, Quote and the document's Quote, walked. -/
import Derived.Test.YtacajmknlknjkaaDoorN2
namespace Go.Proofs.YtacajmknlknjkaaDoor
open Go.RowKit
set_option linter.unusedVariables false
open Go.Shelf
theorem ba_inj {a b : ByteArray} (h : a.data.toList = b.data.toList) : a = b := by
  obtain ⟨⟨a⟩⟩ := a; obtain ⟨⟨b⟩⟩ := b; simp at h; rw [h]
theorem texts_eq {L M : List ByteArray} (h : L.map (·.data.toList) = M.map (·.data.toList)) : L = M := (List.map_inj_right fun _ _ => ba_inj).1 h
set_option maxRecDepth 100000 in
set_option maxHeartbeats 1000000 in
theorem texts_walk (u v : Value) (L : List ByteArray) (hl : L.length ≤ 65537) (w : World) (hu : RdS w u w.heap.size L) (hv : RdS w v w.heap.size L) :
    Calls Tryd.prog 18 #[u, v] w fun x w' => x = .returned (.bool true) ∧ Below w.heap.size w w' := by
  obtain ⟨A, cap, rfl⟩ := hu.form
  obtain ⟨A2, cap2, rfl⟩ := hv.form
  have HU := Lib.hid hu
  have HV := Lib.hid hv
  clear hu hv
  have en : ((L.length : Int) != (L.length : Int)) = false := by simp
  go_enter Tryd.func18, Tryd.ntmps18
  go_upto_region 4 with (fail)
  go_loopw [5] (fun iv wr => ∃ i : Nat, iv = .int .i64 i ∧ i ≤ L.length ∧ Below w.heap.size w wr) (fun iv _ => L.length - (intOf iv).toNat)
  case atStart => exact ⟨0, rfl, Nat.zero_le _, Below.refl _ _⟩
  case round =>
    obtain ⟨i, rfl, hi, bel⟩ := hrel
    have i0 : (0 : Int) ≤ i := by omega
    by_cases hlt : i < L.length
    · have hlt' : (i : Int) < (L.length : Int) := by omega
      rcases HU.out with ⟨_, hl0⟩ | ⟨g, cp, e, _, hg, hh⟩
      · rw [hl0] at hlt; simp at hlt
      cases e
      rcases HV.out with ⟨_, hl0⟩ | ⟨g2, cp2, e2, _, hg2, hh2⟩
      · rw [hl0] at hlt; simp at hlt
      cases e2
      have c0 := hh i hlt
      have d0 := hh2 i hlt
      have zg : g < wr.heap.size := Nat.lt_of_lt_of_le hg bel.size
      have zg2 : g2 < wr.heap.size := Nat.lt_of_lt_of_le hg2 bel.size
      replace c0 := bel_cell bel c0
      replace d0 := bel_cell bel d0
      generalize L.getD i ByteArray.empty = E at *
      have e1 : (E.toList == E.toList) = true := by simp
      have e2 : (E.toList != E.toList) = false := by simp
      have BEL := Lib.hid bel
      clear bel hh hh2
      go_upto_region 6 with (fail)
      go_quiet (fail)
      have B2 := Lib.hid (below_drewN BEL.out nq)
      clear BEL c0 d0 e1 e2 zg zg2
      go_wp2_with (fail)
      go_roundw
      case rel => exact ⟨i + 1, by go_num, by omega, B2.out⟩
      case measure => simp [intOf]; omega
    · obtain rfl : i = L.length := by omega
      have BEL := Lib.hid bel
      clear bel
      go_wp2_with (fail)
      go_ret
      exact ⟨rfl, BEL.out⟩
def QuSaid (s : ByteArray) (w : World) (y : Ending) (w' : World) : Prop :=
  (∃ z : ByteArray, y = .returned (.tuple #[.string z, errE (quE s.data.toList)]) ∧ z.data.toList = quO s.data.toList) ∧ Below w.heap.size w w'
set_option maxRecDepth 100000 in
set_option maxHeartbeats 1000000 in
theorem quote_walk (s : ByteArray) (w : World) (m : Int) (hm : w.cell? ⟨1, 0, none⟩ = some (.int .i64 m)) (hs : s.size ≤ 65536) : Calls Tryd.prog 16 #[.string s] w (QuSaid s w) := by
  have hcl := List.count_le_length (a := (36 : UInt8)) (l := s.data.toList)
  have hsl := sz_len s
  have hcb : Lib.countB s ⟨#[36]⟩ = s.data.toList.count 36 := Lib.count_one 36 s.data.toList
  have RA : Calls Tryd.prog 26 #[.string s, .string ⟨#[36]⟩, .string ⟨#[36, 36]⟩] w fun e w' => e = .returned (.string ⟨(quF s.data.toList).toArray⟩) ∧ Below w.heap.size w w' := by
    have h := Any.strings_ReplaceAll { Tryd.replAll with } Tryd.bExtra s ⟨#[36]⟩ ⟨#[36, 36]⟩ m w (by omega) hm (by decide) (by rw [hcb]; show s.size + s.data.toList.count 36 * 2 ≤ _; omega)
    rw [show (⟨#[36]⟩ : ByteArray).data.toList = [36] from rfl, show (⟨#[36, 36]⟩ : ByteArray).data.toList = [36, 36] from rfl, replaceAll_qu] at h
    exact h
  have HRA := Lib.hid RA
  have HQL := Lib.hid (quF_len s.data.toList)
  have h1 : ¬ (65536 : Int) < (s.size : Int) := by omega
  obtain ⟨z, hz⟩ : ∃ z : ByteArray, (⟨(quF s.data.toList).toArray⟩ : ByteArray) = z := ⟨_, rfl⟩
  have HZ := Lib.hid (show z.data.toList = quF s.data.toList by rw [← hz])
  have hzs : z.size ≤ 131072 := by rw [← sz_len, HZ.out, HQL.out]; omega
  have HZS := Lib.hid (show z.size = (quF s.data.toList).length by rw [← HZ.out, sz_len])
  have HRB := Lib.hid (show Calls Tryd.prog 26 #[.string s, .string ⟨#[36]⟩, .string ⟨#[36, 36]⟩] w fun e w' => e = .returned (.string z) ∧ Below w.heap.size w w' by rw [← hz]; exact HRA.out)
  clear hm RA hcl hsl hcb hz HRA
  go_enter Tryd.func16, Tryd.ntmps16
  go_wp2_with (fail)
  refine HRB.out.mono ?_
  rintro y w2 ⟨rfl, B2⟩
  have BH := Lib.hid B2
  clear HRB B2
  by_cases hb : 65536 < z.size
  · have hb' : (65536 : Int) < (z.size : Int) := by omega
    have HE := Lib.hid (show quE s.data.toList = 2 by unfold quE; rw [← HZS.out, if_pos hb])
    go_wp2_with (fail)
    go_ret2
    exact ⟨⟨⟨#[]⟩, by rw [HE.out]; rfl, by unfold quO; rw [HE.out]; rfl⟩, BH.out⟩
  · have hb' : ¬ (65536 : Int) < (z.size : Int) := by omega
    have HE := Lib.hid (show quE s.data.toList = 0 by unfold quE; rw [← HZS.out, if_neg hb])
    go_wp2_with (fail)
    go_ret2
    exact ⟨⟨z, by rw [HE.out]; rfl, by unfold quO; rw [HE.out, if_pos rfl]; exact HZ.out⟩, BH.out⟩
theorem quF_take (l : List UInt8) (i : Nat) : (quF (l.take i)).length ≤ (quF l).length := by
  have h : quF l = quF (l.take i) ++ quF (l.drop i) := by rw [← quF_app, List.take_append_drop]
  rw [h, List.length_append]; omega
def RefQuSaid (s : ByteArray) (w : World) (y : Ending) (w' : World) : Prop :=
  (∃ z : ByteArray, y = .returned (.tuple #[.string z, .int .i64 (quE s.data.toList)]) ∧ z.data.toList = quO s.data.toList) ∧ w' = w
set_option maxRecDepth 100000 in
set_option maxHeartbeats 4000000 in
theorem refquote_walk (s : ByteArray) (w : World) (hs : s.size ≤ 65536) : Calls Tryd.prog 17 #[.string s] w (RefQuSaid s w) := by
  have HSL := Lib.hid (sz_len s)
  have h1 : ¬ (65536 : Int) < (s.size : Int) := by omega
  go_enter Tryd.func17, Tryd.ntmps17
  go_upto_region 5 with (fail)
  go_loopw [4, 5] (fun ov iv wr => ∃ (i : Nat) (zo : ByteArray), ov = .string zo ∧ iv = .int .i64 i ∧ i ≤ s.size ∧ zo.data.toList = quF (s.data.toList.take i) ∧ zo.size ≤ 65536 ∧ wr = w) (fun _ iv _ => s.size - (intOf iv).toNat)
  case atStart => exact ⟨0, ⟨#[]⟩, rfl, rfl, Nat.zero_le _, rfl, Nat.zero_le _, rfl⟩
  case round =>
    obtain ⟨i, zo, rfl, rfl, hi, hzo, hzs, rfl⟩ := hrel
    have i0 : (0 : Int) ≤ i := by omega
    by_cases hlt : i < s.size
    · have hlt' : (i : Int) < (s.size : Int) := by omega
      have hq1 : quF (s.data.toList.take (i + 1)) = zo.data.toList ++ quF [s[i]] := by rw [byte_at s i hlt, quF_app, hzo]
      have HCUT := Lib.hid (cut_data s i hlt)
      have hsl : ∀ W, (Instr.slice 9 (.string s) (some (.int .i64 (i : Int))) (some (.int .i64 ((i : Int) + 1))) none).run Tryd.prog W = .ok (.string (s.extract i (i + 1))) W := fun W => by
        rw [run_slice_string W 9 s .i64 .i64 _ _ Tryd.underlying9 (by omega) (by omega) (by omega), show ((i : Int)).toNat = i by omega, show ((i : Int) + 1).toNat = i + 1 by omega]
      obtain ⟨cut, hcut⟩ : ∃ cut, s.extract i (i + 1) = cut := ⟨_, rfl⟩
      have hcs : cut.size = 1 := by rw [← sz_len, ← hcut, HCUT.out]; rfl
      rw [hcut] at HCUT hsl
      obtain ⟨c, hc⟩ : ∃ c, s[i] = c := ⟨_, rfl⟩
      rw [hc] at hq1 HCUT
      have HQ1 := Lib.hid hq1
      have hqt := quF_take s.data.toList (i + 1)
      have HQT := Lib.hid hqt
      clear hq1 hzo hqt
      obtain ⟨za, hza⟩ : ∃ za, zo ++ cut = za := ⟨_, rfl⟩
      have hzas : za.size = zo.size + 1 := by rw [← hza, ByteArray.size_append, hcs]
      have HZA := Lib.hid (show za.data.toList = zo.data.toList ++ [c] by rw [← hza, app_data, HCUT.out])
      by_cases h36 : c = 36
      · have hd : ((c.toNat : Int) == 36) = true := by rw [dollar]; exact decide_eq_true h36
        obtain ⟨zb, hzb⟩ : ∃ zb, za ++ (⟨#[36]⟩ : ByteArray) = zb := ⟨_, rfl⟩
        have hzbs : zb.size = zo.size + 2 := by rw [← hzb, ByteArray.size_append, hzas]; rfl
        have HZB := Lib.hid (show zb.data.toList = quF (s.data.toList.take (i + 1)) by rw [← hzb, app_data, HZA.out, HQ1.out, h36]; simp [quF])
        have hzas2 : za.size ≤ 65537 := by omega
        clear h36 hzas
        by_cases hb : 65536 < zb.size
        · have hb' : (65536 : Int) < (zb.size : Int) := by omega
          have HE := Lib.hid (show quE s.data.toList = 2 by unfold quE; rw [if_pos (by have := HQT.out; rw [← HZB.out, sz_len] at this; omega)])
          clear hzbs
          go_wp2_with (fail)
          go_ret2
          exact ⟨⟨⟨#[]⟩, by rw [HE.out]; rfl, by unfold quO; rw [HE.out]; rfl⟩, by first | rfl | trivial⟩
        · have hb' : ¬ (65536 : Int) < (zb.size : Int) := by omega
          have hb2 : zb.size ≤ 65536 := by omega
          clear hzbs
          go_wp2_with (fail)
          go_roundw
          case rel => exact ⟨i + 1, zb, rfl, by go_num, by omega, HZB.out, hb2, by first | rfl | trivial⟩
          case measure => simp [intOf]; omega
      · have hd : ((c.toNat : Int) == 36) = false := by rw [dollar]; exact decide_eq_false h36
        have HZB := Lib.hid (show za.data.toList = quF (s.data.toList.take (i + 1)) by rw [HZA.out, HQ1.out]; simp [quF, h36])
        clear h36
        by_cases hb : 65536 < za.size
        · have hb' : (65536 : Int) < (za.size : Int) := by omega
          have HE := Lib.hid (show quE s.data.toList = 2 by unfold quE; rw [if_pos (by have := HQT.out; rw [← HZB.out, sz_len] at this; omega)])
          clear hzas
          go_wp2_with (fail)
          go_ret2
          exact ⟨⟨⟨#[]⟩, by rw [HE.out]; rfl, by unfold quO; rw [HE.out]; rfl⟩, by first | rfl | trivial⟩
        · have hb' : ¬ (65536 : Int) < (za.size : Int) := by omega
          have hb2 : za.size ≤ 65536 := by omega
          clear hzas
          go_wp2_with (fail)
          go_roundw
          case rel => exact ⟨i + 1, za, rfl, by go_num, by omega, HZB.out, hb2, by first | rfl | trivial⟩
          case measure => simp [intOf]; omega
    · obtain rfl : i = s.size := by omega
      rw [List.take_of_length_le (by rw [HSL.out]; exact Nat.le_refl _)] at hzo
      have HE := Lib.hid (show quE s.data.toList = 0 by unfold quE; rw [← hzo, sz_len, if_neg (by omega)])
      have HZ := Lib.hid hzo
      clear hzo
      go_wp2_with (fail)
      go_ret2
      exact ⟨⟨zo, by rw [HE.out]; rfl, by unfold quO; rw [HE.out, if_pos rfl]; exact HZ.out⟩, by first | rfl | trivial⟩
end Go.Proofs.YtacajmknlknjkaaDoor
