/- The document's Expand, walked. -/
import Derived.Test.YtacajmknlknjkaaDoorC1
namespace Go.Proofs.YtacajmknlknjkaaDoor
open Go.RowKit
set_option linter.unusedVariables false
/-- The first that bears a name. -/
def fnd (L : List Mc) (x : List UInt8) : List UInt8 := match L.find? (fun m => m.n.data.toList == x) with | some m => m.v.data.toList | none => []
theorem fnd_cons (e : Mc) (r : List Mc) (x : List UInt8) : fnd (e :: r) x = if (e.n.data.toList == x) = true then e.v.data.toList else fnd r x := by
  unfold fnd; rw [List.find?_cons]; cases e.n.data.toList == x <;> rfl
theorem valB_fnd (L : List Mc) (x : List UInt8) : valB L x = if x = [] then [36] else fnd L x := rfl
theorem drop_getM (L : List Mc) (j : Nat) (h : j < L.length) : L.drop j = L.getD j mc0 :: L.drop (j + 1) := by
  rw [List.drop_eq_getElem_cons h, List.getD_eq_getElem?_getD, List.getElem?_eq_getElem h]; rfl
theorem app_data (a b : ByteArray) : (a ++ b).data.toList = a.data.toList ++ b.data.toList := by rw [ByteArray.data_append, Array.toList_append]
theorem cut_data (s : ByteArray) (i : Nat) (h : i < s.size) : (s.extract i (i + 1)).data.toList = [s[i]] := by
  have h' : i < s.data.size := h
  apply List.ext_getElem?
  intro k
  rw [ByteArray.data_extract, Array.getElem?_toList, Array.getElem?_extract]
  cases k with
  | zero => rw [if_pos (by omega)]; simp only [Nat.add_zero]; rw [Array.getElem?_eq_getElem h']; rfl
  | succ k => rw [if_neg (by omega)]; simp
theorem run_take (L : List Mc) (s : ByteArray) (i : Nat) (h : i < s.size) (st : Ds) : runB L st (s.data.toList.take (i + 1)) = stepB L (runB L st (s.data.toList.take i)) s[i] := by
  rw [byte_at s i h, runB_app]; rfl
theorem run_some (L : List Mc) (l : List UInt8) (st : Ds) (i : Nat) : (runB L st (l.take i)).o.length ≤ (runB L st l).o.length := by
  have h : l = l.take i ++ l.drop i := (List.take_append_drop i l).symm
  conv => rhs; rw [h, runB_app]
  exact runB_le L _ _
def RefSaid (L : List Mc) (s : ByteArray) (w : World) (y : Ending) (w' : World) : Prop :=
  (∃ z : ByteArray, y = .returned (.tuple #[.string z, .int .i64 (expE L s.data.toList)]) ∧ z.data.toList = expO L s.data.toList) ∧ w' = w
set_option maxRecDepth 100000 in
set_option maxHeartbeats 8000000 in
theorem refexpand_walk (s : ByteArray) (v : Value) (L : List Mc) (w : World) (hL : RdM w v w.heap.size L) (hl : L.length ≤ 65536) (hs : s.size ≤ 65536) (hv : ∀ e ∈ L, e.v.size ≤ 65536) :
    Calls Tryd.prog 12 #[.string s, v] w (RefSaid L s w) := by
  obtain ⟨A, cap, rfl⟩ := hL.form
  have HI := Lib.hid hL
  have HV := Lib.hid hv
  have hsl := sz_len s
  have CK := Lib.hid (check_walk s w (by omega))
  rw [if_neg (by omega)] at CK
  by_cases h2 : s.data.toList.count 36 % 2 = 1
  · rw [if_pos h2] at CK
    have HE := Lib.hid (show expE L s.data.toList = 3 by unfold expE; rw [if_neg (by omega), if_pos h2])
    clear hL hsl hv h2
    go_enter Tryd.func12, Tryd.ntmps12
    go_wp2_with (fail)
    refine CK.out.mono ?_
    rintro y w2 ⟨rfl, rfl⟩
    go_wp2_with (fail)
    go_ret2
    exact ⟨⟨⟨#[]⟩, by rw [HE.out]; rfl, by unfold expO; rw [HE.out]; rfl⟩, by first | rfl | trivial⟩
  rw [if_neg h2] at CK
  have HE := Lib.hid (show expE L s.data.toList = if 65536 < (expB L s.data.toList).length then 2 else 0 by unfold expE; rw [if_neg (by omega), if_neg h2])
  have HSL := Lib.hid hsl
  clear hL hsl hv h2
  go_enter Tryd.func12, Tryd.ntmps12
  go_wp2_with (fail)
  refine CK.out.mono ?_
  rintro y w2 ⟨rfl, rfl⟩
  clear CK
  go_upto_region 7 with (fail)
  go_loopw [7, 8, 9, 10, 11, 12, 48, 63, 75] (fun ov xv bv iv _ _ _ _ _ wr => ∃ (i : Nat) (zo zx : ByteArray) (b : Bool), ov = .string zo ∧ xv = .string zx ∧ bv = .bool b ∧ iv = .int .i64 i ∧ i ≤ s.size ∧ runB L ⟨false, [], []⟩ (s.data.toList.take i) = ⟨b, zx.data.toList, zo.data.toList⟩ ∧ zo.size ≤ 65536 ∧ zx.size ≤ i ∧ wr = w2) (fun _ _ _ iv _ _ _ _ _ _ => s.size - (intOf iv).toNat)
  case atStart => exact ⟨0, ⟨#[]⟩, ⟨#[]⟩, false, rfl, rfl, rfl, rfl, Nat.zero_le _, rfl, Nat.zero_le _, Nat.zero_le _, rfl⟩
  case round =>
    obtain ⟨i, zo, zx, b, rfl, rfl, rfl, rfl, hi, hrun, hzo, hzx, rfl⟩ := hrel
    have i0 : (0 : Int) ≤ i := by omega
    by_cases hlt : i < s.size
    · have hlt' : (i : Int) < (s.size : Int) := by omega
      have HRS := Lib.hid (show runB L ⟨false, [], []⟩ (s.data.toList.take (i + 1)) = stepB L ⟨b, zx.data.toList, zo.data.toList⟩ s[i] by rw [run_take L s i hlt, hrun])
      have HOV := Lib.hid (show ∀ z : ByteArray, (runB L ⟨false, [], []⟩ (s.data.toList.take (i + 1))).o = z.data.toList → 65536 < z.size → expE L s.data.toList = 2 from fun z h1 h2 => by
        have h3 := run_some L s.data.toList ⟨false, [], []⟩ (i + 1)
        rw [h1, sz_len] at h3
        rw [HE.out, if_pos (show 65536 < (expB L s.data.toList).length from by unfold expB; omega)])
      have HCUT := Lib.hid (cut_data s i hlt)
      have hsl : ∀ W, (Instr.slice 9 (.string s) (some (.int .i64 (i : Int))) (some (.int .i64 ((i : Int) + 1))) none).run Tryd.prog W = .ok (.string (s.extract i (i + 1))) W := fun W => by
        rw [run_slice_string W 9 s .i64 .i64 _ _ Tryd.underlying9 (by omega) (by omega) (by omega), show ((i : Int)).toNat = i by omega, show ((i : Int) + 1).toNat = i + 1 by omega]
      obtain ⟨cut, hcut⟩ : ∃ cut, s.extract i (i + 1) = cut := ⟨_, rfl⟩
      have hcs : cut.size = 1 := by rw [← sz_len, ← hcut, HCUT.out]; rfl
      rw [hcut] at HCUT hsl
      clear hrun
      obtain ⟨c, hc⟩ : ∃ c, s[i] = c := ⟨_, rfl⟩
      rw [hc] at HRS HCUT
      by_cases h36 : c = 36
      · have hd : ((c.toNat : Int) == 36) = true := by rw [dollar]; exact decide_eq_true h36
        have hd' : ((c.toNat : Int) != 36) = false := by simpa using hd
        have HC := Lib.hid h36
        clear h36
        cases b with
        | true =>
          go_upto_region 12 with (fail)
          go_loopw [11, 12] (fun vv kv wr2 => ∃ (zv : ByteArray) (kn : Nat), vv = .string zv ∧ kv = .int .i64 ((kn : Int) - 1) ∧ kn ≤ L.length ∧ zv.data.toList = fnd (L.drop kn) zx.data.toList ∧ zv.size ≤ 65536 ∧ wr2 = wr) (fun _ kv _ => ((intOf kv) + 1).toNat)
          case atStart => exact ⟨⟨#[]⟩, L.length, rfl, by go_num, Nat.le_refl _, by rw [List.drop_length]; rfl, Nat.zero_le _, rfl⟩
          case round =>
            obtain ⟨zv, kn, rfl, rfl, hkn, hzv, hzs, rfl⟩ := hrel
            rcases kn with _ | jj
            · have HZV := Lib.hid (show zv.data.toList = fnd L zx.data.toList from hzv)
              clear hzv hkn
              have hm1 : ((0 : Nat) : Int) - 1 = -1 := rfl
              rw [hm1]
              by_cases hx : zx.data.toList = []
              · have hx2 : zx.toList.isEmpty = true := by rw [Lib.toList_data]; simpa using hx
                have HVB := Lib.hid (show (⟨#[36]⟩ : ByteArray).data.toList = valB L zx.data.toList by rw [valB_fnd, if_pos hx])
                have hd36 : (⟨#[36]⟩ : ByteArray).size = 1 := rfl
                clear hx
                go_upto_region 18 with (fail)
                have HST := Lib.hid (show runB L ⟨false, [], []⟩ (s.data.toList.take (i + 1)) = ⟨false, (zx).data.toList, (zo ++ (⟨#[36]⟩ : ByteArray)).data.toList⟩ by rw [HRS.out]; unfold stepB; rw [if_pos HC.out, app_data, HVB.out]; rfl)
                obtain ⟨zn, hzn⟩ : ∃ zn, zo ++ (⟨#[36]⟩ : ByteArray) = zn := ⟨_, rfl⟩
                have hos : zn.size = zo.size + ((⟨#[36]⟩ : ByteArray) : ByteArray).size := by rw [← hzn, ByteArray.size_append]
                rw [hzn] at HST
                by_cases hbig : 65536 < zn.size
                · have hb2 : (65536 : Int) < (zn.size : Int) := by omega
                  clear hos
                  have HF := Lib.hid (HOV.out (zn) (by rw [HST.out]) (by omega))
                  go_wp2_with (fail)
                  go_ret2
                  exact ⟨⟨⟨#[]⟩, by rw [HF.out]; rfl, by unfold expO; rw [HF.out]; rfl⟩, by first | rfl | trivial⟩
                · have hb2 : ¬ (65536 : Int) < (zn.size : Int) := by omega
                  have hb3 : zn.size ≤ 65536 := by omega
                  clear hos
                  go_wp2_with (fail)
                  go_roundw
                  case rel => exact ⟨i + 1, zn, zx, false, rfl, rfl, rfl, by go_num, by omega, HST.out, hb3, (by omega), by first | rfl | trivial⟩
                  case measure => simp [intOf]; omega
              · have hx2 : zx.toList.isEmpty = false := by rw [Lib.toList_data]; simpa using hx
                have HVB := Lib.hid (show zv.data.toList = valB L zx.data.toList by rw [valB_fnd, if_neg hx]; exact HZV.out)
                clear hx
                go_upto_region 18 with (fail)
                have HST := Lib.hid (show runB L ⟨false, [], []⟩ (s.data.toList.take (i + 1)) = ⟨false, (zx).data.toList, (zo ++ zv).data.toList⟩ by rw [HRS.out]; unfold stepB; rw [if_pos HC.out, app_data, HVB.out]; rfl)
                obtain ⟨zn, hzn⟩ : ∃ zn, zo ++ zv = zn := ⟨_, rfl⟩
                have hos : zn.size = zo.size + (zv : ByteArray).size := by rw [← hzn, ByteArray.size_append]
                rw [hzn] at HST
                by_cases hbig : 65536 < zn.size
                · have hb2 : (65536 : Int) < (zn.size : Int) := by omega
                  clear hos
                  have HF := Lib.hid (HOV.out (zn) (by rw [HST.out]) (by omega))
                  go_wp2_with (fail)
                  go_ret2
                  exact ⟨⟨⟨#[]⟩, by rw [HF.out]; rfl, by unfold expO; rw [HF.out]; rfl⟩, by first | rfl | trivial⟩
                · have hb2 : ¬ (65536 : Int) < (zn.size : Int) := by omega
                  have hb3 : zn.size ≤ 65536 := by omega
                  clear hos
                  go_wp2_with (fail)
                  go_roundw
                  case rel => exact ⟨i + 1, zn, zx, false, rfl, rfl, rfl, by go_num, by omega, HST.out, hb3, (by omega), by first | rfl | trivial⟩
                  case measure => simp [intOf]; omega
            · have hj1 : ((jj + 1 : Nat) : Int) - 1 = (jj : Int) := by omega
              rw [hj1]
              have j0 : (0 : Int) ≤ jj := by omega
              have hjl : jj < L.length := by omega
              have hjl' : (jj : Int) < (L.length : Int) := by omega
              rcases HI.out with ⟨_, _, _, _, hl0⟩ | ⟨g2, o, cp, e, hg2, hh⟩
              · rw [hl0] at hjl; simp at hjl
              cases e
              obtain ⟨q0, q1⟩ := hh jj hjl
              have z0 := World.block_lt_of_cell? _ _ q0
              have z1 := World.block_lt_of_cell? _ _ q1
              have HFD := Lib.hid (show fnd (L.drop jj) zx.data.toList = if ((L.getD jj mc0).n.data.toList == zx.data.toList) = true then (L.getD jj mc0).v.data.toList else zv.data.toList by rw [drop_getM L jj hjl, fnd_cons, hzv])
              have hvs := HV.out (L.getD jj mc0) (by rw [List.getD_eq_getElem?_getD, List.getElem?_eq_getElem hjl]; exact List.getElem_mem _)
              clear hzv hh
              generalize L.getD jj mc0 = E at *
              cases hr : (E.n.toList == zx.toList) with
              | true =>
                have HR := Lib.hid (show (E.n.data.toList == zx.data.toList) = true by rw [← Lib.toList_data, ← Lib.toList_data]; exact hr)
                go_wp2_with (fail)
                go_roundw
                case rel => exact ⟨E.v, jj, rfl, by first | rfl | go_num | (congr 1; omega), by omega, by rw [HFD.out, if_pos HR.out], hvs, by first | rfl | trivial⟩
                case measure => first | (simp [intOf]; done) | (simp [intOf]; omega)
              | false =>
                have HR := Lib.hid (show (E.n.data.toList == zx.data.toList) = false by rw [← Lib.toList_data, ← Lib.toList_data]; exact hr)
                go_wp2_with (fail)
                go_roundw
                case rel => exact ⟨zv, jj, rfl, by first | rfl | go_num | (congr 1; omega), by omega, by rw [HFD.out, if_neg (by rw [HR.out]; simp)], hzs, by first | rfl | trivial⟩
                case measure => first | (simp [intOf]; done) | (simp [intOf]; omega)
        | false =>
          have HST := Lib.hid (show runB L ⟨false, [], []⟩ (s.data.toList.take (i + 1)) = ⟨true, ((⟨#[]⟩ : ByteArray)).data.toList, (zo).data.toList⟩ by rw [HRS.out]; unfold stepB; rw [if_pos HC.out]; rfl)
          go_wp2_with (fail)
          go_roundw
          case rel => exact ⟨i + 1, zo, ⟨#[]⟩, true, rfl, rfl, rfl, by go_num, by omega, HST.out, hzo, Nat.zero_le _, by first | rfl | trivial⟩
          case measure => simp [intOf]; omega
      · have hd : ((c.toNat : Int) == 36) = false := by rw [dollar]; exact decide_eq_false h36
        have hd' : ((c.toNat : Int) != 36) = true := by simpa using hd
        have HC := Lib.hid h36
        clear h36
        cases b with
        | true =>
          have HST := Lib.hid (show runB L ⟨false, [], []⟩ (s.data.toList.take (i + 1)) = ⟨true, (zx ++ cut).data.toList, (zo).data.toList⟩ by rw [HRS.out]; unfold stepB; rw [if_neg HC.out, app_data, HCUT.out]; rfl)
          have hxs : (zx ++ cut).size ≤ i + 1 := by rw [ByteArray.size_append]; omega
          go_wp2_with (fail)
          go_roundw
          case rel => exact ⟨i + 1, zo, zx ++ cut, true, rfl, rfl, rfl, by go_num, by omega, HST.out, hzo, hxs, by first | rfl | trivial⟩
          case measure => simp [intOf]; omega
        | false =>
          have HST := Lib.hid (show runB L ⟨false, [], []⟩ (s.data.toList.take (i + 1)) = ⟨false, (zx).data.toList, (zo ++ cut).data.toList⟩ by rw [HRS.out]; unfold stepB; rw [if_neg HC.out, app_data, HCUT.out]; rfl)
          obtain ⟨zn, hzn⟩ : ∃ zn, zo ++ cut = zn := ⟨_, rfl⟩
          have hos : zn.size = zo.size + (cut : ByteArray).size := by rw [← hzn, ByteArray.size_append]
          rw [hzn] at HST
          by_cases hbig : 65536 < zn.size
          · have hb2 : (65536 : Int) < (zn.size : Int) := by omega
            clear hos
            have HF := Lib.hid (HOV.out (zn) (by rw [HST.out]) (by omega))
            go_wp2_with (fail)
            go_ret2
            exact ⟨⟨⟨#[]⟩, by rw [HF.out]; rfl, by unfold expO; rw [HF.out]; rfl⟩, by first | rfl | trivial⟩
          · have hb2 : ¬ (65536 : Int) < (zn.size : Int) := by omega
            have hb3 : zn.size ≤ 65536 := by omega
            clear hos
            go_wp2_with (fail)
            go_roundw
            case rel => exact ⟨i + 1, zn, zx, false, rfl, rfl, rfl, by go_num, by omega, HST.out, hb3, (by omega), by first | rfl | trivial⟩
            case measure => simp [intOf]; omega
    · obtain rfl : i = s.size := by omega
      rw [List.take_of_length_le (by rw [HSL.out]; exact Nat.le_refl _)] at hrun
      have HB := Lib.hid (show expB L s.data.toList = zo.data.toList by unfold expB; rw [hrun])
      have HF := Lib.hid (show expE L s.data.toList = 0 by rw [HE.out, HB.out, sz_len, if_neg (by omega)])
      clear hrun
      go_wp2_with (fail)
      go_ret2
      exact ⟨⟨zo, by rw [HF.out]; rfl, by unfold expO; rw [HF.out, if_pos rfl, HB.out]⟩, by first | rfl | trivial⟩
end Go.Proofs.YtacajmknlknjkaaDoor
