/- The document's Names, walked. -/
import Derived.Test.YtacajmknlknjkaaDoorN1
import Derived.Test.YtacajmknlknjkaaDoorC2
namespace Go.Proofs.YtacajmknlknjkaaDoor
open Go.RowKit
set_option linter.unusedVariables false
theorem mid_data (s : ByteArray) (f i : Nat) (h : i ≤ s.size) : (s.extract f i).data.toList = (s.data.toList.take i).drop f := by
  apply List.ext_getElem?
  intro k
  rw [ByteArray.data_extract, Array.getElem?_toList, Array.getElem?_extract, List.getElem?_drop]
  by_cases hk : f + k < i
  · rw [List.getElem?_take_of_lt hk, Array.getElem?_toList, if_pos (by have : s.data.size = s.size := rfl; omega)]
  · rw [List.getElem?_take_eq_none (by omega), if_neg (by have : s.data.size = s.size := rfl; omega)]
theorem nrun_take (s : ByteArray) (i : Nat) (h : i < s.size) (st : Ns) : nrun st (s.data.toList.take (i + 1)) = nstep (nrun st (s.data.toList.take i)) s[i] := by
  rw [byte_at s i h]; unfold nrun; rw [List.foldl_append]; rfl
def RefNmSaid (s : ByteArray) (w : World) (y : Ending) (w' : World) : Prop :=
  (∃ (v : Value) (L : List ByteArray), y = .returned (.tuple #[v, .int .i64 (namesE s.data.toList)]) ∧ L.map (·.data.toList) = namesO s.data.toList ∧ L.length ≤ 65537 ∧ w'.ownsRow w.heap.size 9 1 v L.length (cellsS L)) ∧ Below w.heap.size w w'
theorem mem_getS {L : List ByteArray} {x : List UInt8} : x ∈ L.map (·.data.toList) ↔ ∃ j, j < L.length ∧ (L.getD j ByteArray.empty).data.toList = x := by
  constructor
  · intro h
    obtain ⟨a, ha, rfl⟩ := List.mem_map.1 h
    obtain ⟨j, hj, rfl⟩ := List.getElem_of_mem ha
    exact ⟨j, hj, by rw [List.getD_eq_getElem?_getD, List.getElem?_eq_getElem hj]; rfl⟩
  · rintro ⟨j, hj, rfl⟩
    rw [List.getD_eq_getElem?_getD, List.getElem?_eq_getElem hj]
    exact List.mem_map.2 ⟨_, List.getElem_mem hj, rfl⟩
set_option maxRecDepth 100000 in
set_option maxHeartbeats 8000000 in
theorem refnames_walk (s : ByteArray) (w : World) (hs : s.size ≤ 65536) : Calls Tryd.prog 15 #[.string s] w (RefNmSaid s w) := by
  have hsl := sz_len s
  have CK := Lib.hid (check_walk s w (by omega))
  rw [if_neg (by omega)] at CK
  by_cases h2 : s.data.toList.count 36 % 2 = 1
  · rw [if_pos h2] at CK
    have HE := Lib.hid (show namesE s.data.toList = 3 by unfold namesE; rw [if_neg (by omega), if_pos h2])
    clear hsl h2
    go_enter Tryd.func15, Tryd.ntmps15
    go_wp2_with (fail)
    refine CK.out.mono ?_
    rintro y w2 ⟨rfl, rfl⟩
    go_wp2_with (fail)
    go_ret2
    exact ⟨⟨_, [], by rw [HE.out]; rfl, by unfold namesO; rw [HE.out]; rfl, Nat.zero_le _, World.ownsRow_nil _ _ _ _⟩, Below.refl _ _⟩
  rw [if_neg h2] at CK
  have HE := Lib.hid (show namesE s.data.toList = 0 by unfold namesE; rw [if_neg (by omega), if_neg h2])
  have HSL := Lib.hid hsl
  obtain ⟨ii, hi0, hz0, hz1, hz2⟩ := info_parts info9
  clear hsl h2
  go_enter Tryd.func15, Tryd.ntmps15
  go_wp2_with (fail)
  refine CK.out.mono ?_
  rintro y w2 ⟨rfl, rfl⟩
  clear CK
  go_upto_region 7 with (fail)
  go_loopw [5, 6, 7, 8, 9, 10] (fun uv fv iv _ _ _ wr => ∃ (i : Nat) (f : Int) (b : Bool) (x : List UInt8) (L : List ByteArray), fv = .int .i64 f ∧ iv = .int .i64 i ∧ i ≤ s.size ∧ nrun ⟨false, [], []⟩ (s.data.toList.take i) = ⟨b, x, L.map (·.data.toList)⟩ ∧ ((b = false ∧ f = -1) ∨ (b = true ∧ 0 ≤ f ∧ f ≤ i ∧ x = (s.data.toList.take i).drop f.toNat)) ∧ wr.ownsRow w2.heap.size 9 1 uv L.length (cellsS L) ∧ L.length ≤ i ∧ Below w2.heap.size w2 wr) (fun _ _ iv _ _ _ _ => s.size - (intOf iv).toNat)
  case atStart => exact ⟨0, -1, false, [], [], rfl, rfl, Nat.zero_le _, rfl, .inl ⟨rfl, rfl⟩, World.ownsRow_nil _ _ _ _, Nat.le_refl _, Below.refl _ _⟩
  case round =>
    obtain ⟨i, f, b, x, L, rfl, rfl, hi, hrun, hst, own, hLl, bel⟩ := hrel
    have i0 : (0 : Int) ≤ i := by omega
    have HOW := Lib.hid own
    have BEL := Lib.hid bel
    clear own bel
    by_cases hlt : i < s.size
    · have hlt' : (i : Int) < (s.size : Int) := by omega
      have hrs : nrun ⟨false, [], []⟩ (s.data.toList.take (i + 1)) = nstep ⟨b, x, L.map (·.data.toList)⟩ s[i] := by rw [nrun_take s i hlt, hrun]
      have htk := byte_at s i hlt
      obtain ⟨c, hc⟩ : ∃ c, s[i] = c := ⟨_, rfl⟩
      rw [hc] at hrs htk
      have HRS := Lib.hid hrs
      have HTK := Lib.hid htk
      clear hrun hrs htk
      by_cases h36 : c = 36
      · have hd : ((c.toNat : Int) == 36) = true := by rw [dollar]; exact decide_eq_true h36
        have hd' : ((c.toNat : Int) != 36) = false := by simpa using hd
        have HC := Lib.hid h36
        clear h36
        rcases hst with ⟨rfl, rfl⟩ | ⟨rfl, f0, fi, hx⟩
        · have HST := Lib.hid (show nrun ⟨false, [], []⟩ (s.data.toList.take (i + 1)) = ⟨true, [], L.map (·.data.toList)⟩ by rw [HRS.out]; unfold nstep; rw [if_pos HC.out]; rfl)
          go_wp2_with (fail)
          go_roundw
          case rel => exact ⟨i + 1, (i : Int) + 1, true, [], L, by go_num, by go_num, by omega, HST.out, .inr ⟨rfl, by omega, by omega, by rw [show ((i : Int) + 1).toNat = i + 1 by omega, List.drop_of_length_le (by rw [List.length_take]; omega)]⟩, HOW.out, by omega, BEL.out⟩
          case measure => simp [intOf]; omega
        · obtain ⟨fn, rfl⟩ : ∃ fn : Nat, f = fn := ⟨f.toNat, by omega⟩
          rw [show ((fn : Int)).toNat = fn by omega] at hx
          have hfn : ¬ (fn : Int) < 0 := by omega
          have hsl : ∀ W, (Instr.slice 9 (.string s) (some (.int .i64 (fn : Int))) (some (.int .i64 (i : Int))) none).run Tryd.prog W = .ok (.string (s.extract fn i)) W := fun W => by
            rw [run_slice_string W 9 s .i64 .i64 _ _ Tryd.underlying9 (by omega) (by omega) (by omega), show ((fn : Int)).toNat = fn by omega, show ((i : Int)).toNat = i by omega]
          have HNM := Lib.hid ((mid_data s fn i hi).trans hx.symm)
          have hnz : (s.extract fn i).size ≤ 65536 := by rw [ByteArray.size_extract]; omega
          obtain ⟨nm, hnm⟩ : ∃ nm, s.extract fn i = nm := ⟨_, rfl⟩
          rw [hnm] at hsl HNM hnz
          have HST := Lib.hid (show nrun ⟨false, [], []⟩ (s.data.toList.take (i + 1)) = ⟨false, x, nmStep (L.map (·.data.toList)) x⟩ by rw [HRS.out]; unfold nstep; rw [if_pos HC.out]; rfl)
          clear hx hnm
          go_upto_region 16 with (fail)
          clear hsl
          go_loopw [9, 10] (fun bv kv wr2 => ∃ (k : Nat) (b2 : Bool), bv = .bool b2 ∧ kv = .int .i64 k ∧ k ≤ L.length ∧ (b2 = true ↔ (x = [] ∨ ∃ j, j < k ∧ (L.getD j ByteArray.empty).data.toList = x)) ∧ wr2 = wr) (fun _ kv _ => L.length - (intOf kv).toNat)
          case atStart =>
            refine ⟨0, nm.toList.isEmpty, rfl, rfl, Nat.zero_le _, ?_, rfl⟩
            rw [Lib.toList_data, HNM.out]
            cases x with
            | nil => simp
            | cons a r => simp
          case round =>
            obtain ⟨k, b2, rfl, rfl, hk, hb2, rfl⟩ := hrel
            have k0 : (0 : Int) ≤ k := by omega
            have HB2 := Lib.hid hb2
            clear hb2
            by_cases hkl : k < L.length
            · have hkl' : (k : Int) < (L.length : Int) := by omega
              rcases RdS.of_owns HOW.out rfl (Nat.le_refl wr.heap.size) with ⟨_, hl0⟩ | ⟨g, cp, e, hcp, hg, hh⟩
              · rw [hl0] at hkl; simp at hkl
              subst e
              have c0 := hh k hkl
              have HQ := Lib.hid (show (∃ j, j < k + 1 ∧ (L.getD j ByteArray.empty).data.toList = x) ↔ (∃ j, j < k ∧ (L.getD j ByteArray.empty).data.toList = x) ∨ (L.getD k ByteArray.empty).data.toList = x from by
                constructor
                · rintro ⟨j, hj, h⟩
                  by_cases hjk : j = k
                  · subst hjk; exact .inr h
                  · exact .inl ⟨j, by omega, h⟩
                · rintro (⟨j, hj, h⟩ | h)
                  · exact ⟨j, by omega, h⟩
                  · exact ⟨k, by omega, h⟩)
              clear hh
              generalize L.getD k ByteArray.empty = E at *
              cases b2 with
              | true =>
                go_wp2_with (fail)
                go_roundw
                case rel => exact ⟨k + 1, true, rfl, by go_num, by omega, by rw [HQ.out]; have := HB2.out.1 rfl; simp only [true_iff]; rcases this with h | h; exact .inl h; exact .inr (.inl h), by first | rfl | trivial⟩
                case measure => simp [intOf]; omega
              | false =>
                have HN := Lib.hid (show ¬ (x = [] ∨ ∃ j, j < k ∧ (L.getD j ByteArray.empty).data.toList = x) from fun h => by have := HB2.out.2 h; cases this)
                cases hr : (E.toList == nm.toList) with
                | true =>
                  have HR := Lib.hid (show E.data.toList = x by rw [Lib.toList_data, Lib.toList_data, HNM.out] at hr; simpa using hr)
                  go_wp2_with (fail)
                  go_roundw
                  case rel => exact ⟨k + 1, true, rfl, by go_num, by omega, by rw [HQ.out]; simp only [true_iff]; exact .inr (.inr HR.out), by first | rfl | trivial⟩
                  case measure => simp [intOf]; omega
                | false =>
                  have HR := Lib.hid (show ¬ E.data.toList = x by rw [Lib.toList_data, Lib.toList_data, HNM.out] at hr; simpa using hr)
                  go_wp2_with (fail)
                  go_roundw
                  case rel => exact ⟨k + 1, false, rfl, by go_num, by omega, by rw [HQ.out]; simp only [Bool.false_eq_true, false_iff]; rintro (h | h | h); exact HN.out (.inl h); exact HN.out (.inr h); exact HR.out h, by first | rfl | trivial⟩
                  case measure => simp [intOf]; omega
            · obtain rfl : k = L.length := by omega
              obtain ⟨A5, cap5, e5⟩ := (RdS.of_owns HOW.out rfl (Nat.le_refl wr.heap.size)).form
              subst e5
              have HMM := Lib.hid (show b2 = true ↔ (x = [] ∨ x ∈ L.map (·.data.toList)) by rw [mem_getS]; exact HB2.out)
              cases b2 with
              | true =>
                have HNS := Lib.hid (show nmStep (L.map (·.data.toList)) x = L.map (·.data.toList) by unfold nmStep; rw [if_pos (HMM.out.1 rfl)])
                go_wp2_with (fail)
                go_roundw
                case rel => exact ⟨i + 1, -1, false, x, L, by go_num, by go_num, by omega, by rw [HST.out, HNS.out], .inl ⟨rfl, rfl⟩, HOW.out, by omega, BEL.out⟩
                case measure => simp [intOf]; omega
              | false =>
                have HNS := Lib.hid (show nmStep (L.map (·.data.toList)) x = (L ++ [nm]).map (·.data.toList) by unfold nmStep; rw [if_neg (fun h => by have := HMM.out.2 h; cases this), List.map_append, List.map_cons, List.map_nil, HNM.out])
                have hva := HOW.out.alloc (.cells #[.string nm] 9)
                have hnw := Lib.hid (World.news_of_block (cs := #[.string nm]) (t := 9) (fr := (0, 0)) (heap_alloc_new wr (.cells #[.string nm] 9)))
                have hsz4 : w2.heap.size ≤ (wr.alloc (.cells #[.string nm] 9)).heap.size := by have h1 := BEL.out.size; simp; omega
                go_wp2_with (at_builtin; refine wpList_append_own_at _ rfl _ _ 40 rfl w2.heap.size 9 ii (.string ByteArray.empty) 1 16 Tryd.underlying40 hi0 hz0 hz1 hz2 rfl (by decide) (.slice A5 L.length cap5) L.length (cellsS L) rfl hva ⟨wr.heap.size, 0, none⟩ 1 1 [.string nm] rfl rfl hnw.out (by simp [Value.oneCell']) (by simp only [maxLen]; omega) (by omega) hsz4 ?_; intro v4 w4 own4 gr4 nil4 at4)
                have B4 := Lib.hid (below_grown' (BEL.out.alloc (by have := BEL.out.size; omega) (.cells #[.string nm] 9)) gr4 (fun k e => (HOW.out.lt k e).1) hsz4)
                rw [← cellsS_snoc, show L.length + 1 = (L ++ [nm]).length by simp] at own4
                have HO4 := Lib.hid own4
                clear own4 gr4 nil4 at4 hva hsz4
                go_wp2
                go_roundw
                case rel => exact ⟨i + 1, -1, false, x, L ++ [nm], by go_num, by go_num, by omega, by rw [HST.out, HNS.out], .inl ⟨rfl, rfl⟩, HO4.out, by simp; omega, B4.out⟩
                case measure => simp [intOf]; omega
      · have hd : ((c.toNat : Int) == 36) = false := by rw [dollar]; exact decide_eq_false h36
        have hd' : ((c.toNat : Int) != 36) = true := by simpa using hd
        have HST := Lib.hid (show ∃ x', nrun ⟨false, [], []⟩ (s.data.toList.take (i + 1)) = ⟨b, x', L.map (·.data.toList)⟩ ∧ ((b = false ∧ f = -1) ∨ (b = true ∧ 0 ≤ f ∧ f ≤ ((i + 1 : Nat) : Int) ∧ x' = (s.data.toList.take (i + 1)).drop f.toNat)) by
          rcases hst with ⟨rfl, rfl⟩ | ⟨rfl, f0, fi, hx⟩
          · exact ⟨x, by rw [HRS.out]; unfold nstep; rw [if_neg h36]; rfl, .inl ⟨rfl, rfl⟩⟩
          · refine ⟨x ++ [c], by rw [HRS.out]; unfold nstep; rw [if_neg h36]; rfl, .inr ⟨rfl, f0, by push_cast; omega, ?_⟩⟩
            rw [HTK.out, List.drop_append_of_le_length (by rw [List.length_take, HSL.out]; omega), hx])
        clear h36 hst
        go_wp2_with (fail)
        go_roundw
        case rel =>
          obtain ⟨x', h1, h2⟩ := HST.out
          exact ⟨i + 1, f, b, x', L, rfl, by go_num, by omega, h1, h2, HOW.out, by omega, BEL.out⟩
        case measure => simp [intOf]; omega
    · obtain rfl : i = s.size := by omega
      rw [List.take_of_length_le (by rw [HSL.out]; exact Nat.le_refl _)] at hrun
      have HF := Lib.hid (show L.map (·.data.toList) = namesO s.data.toList by unfold namesO; rw [HE.out, if_pos rfl]; unfold namesB; rw [hrun])
      clear hrun hst
      go_wp2_with (fail)
      go_ret2
      exact ⟨⟨_, L, by rw [HE.out]; rfl, HF.out, by omega, HOW.out⟩, BEL.out⟩
end Go.Proofs.YtacajmknlknjkaaDoor
