/- The document's Lines, walked. -/
import Derived.Test.YtfioigbopagogaaDoorP6
import Derived.Test.YtfioigbopagogaaDoorX2
namespace Go.Proofs.YtfioigbopagogaaDoor
open Go.RowKit
set_option linter.unusedVariables false
theorem slice_one (s : ByteArray) (i : Nat) (h : i < s.size) (W : World) : ∃ nx : ByteArray, (Instr.slice 9 (.string s) (some (.int .i64 (i : Int))) (some (.int .i64 ((i : Int) + 1))) none).run Tryd.prog W = .ok (.string nx) W ∧ nx.data.toList = [s[i]] := by
  obtain ⟨nx, h1, h2⟩ := slice_mid s i (i + 1) (Nat.le_succ i) h W
  refine ⟨nx, h1, ?_⟩
  rw [h2, byte_at s i h, List.drop_append_of_le_length (by rw [List.length_take, sz_len]; omega), List.drop_of_length_le (by rw [List.length_take]; omega)]; rfl
theorem trim_idem (x : List UInt8) : Lib.trimS (Lib.trimS x blanks) blanks = Lib.trimS x blanks := by
  obtain ⟨b1, b2, h1, h2, hx⟩ := trim_dec x
  conv => rhs; rw [hx, trim_bl h1 h2]
theorem doc_step {X : List UInt8} {i number : Nat} {out : List (Nat × List UInt8)} (hi : (X ++ [10])[i]? = some 10) (h : linesF X = linesS (number + 1) none ((pcs 10 (X.drop i)).drop 1) out) :
    (i + 1 ≤ X.length → DocI X (i + 1) (number + 1) (number + 1) [] out) ∧ (i + 1 = X.length + 1 → linesF X = ⟨out, 0, 0⟩) :=
  ⟨fun hl => docI_next (by rw [List.getElem?_append_left (by omega)] at hi; exact hi) h, fun hl => docI_end (by omega) h⟩
theorem info51 : (Tryd.prog.info? 51).map (fun i => (i.zero, i.size, i.bytes)) = some (some (.agg #[.int .i64 0, .string ByteArray.empty]), 2, 24) := by kernel_rfl
def LinesDoc (s : ByteArray) (w : World) (y : Ending) (w' : World) : Prop :=
  (∃ (v : Value) (L : List Ln), y = .returned (.tuple #[v, .int .i64 (linesF s.data.toList).at_, .int .i64 (linesF s.data.toList).e]) ∧ outF L = (linesF s.data.toList).l ∧ L.length ≤ 9001 ∧ w'.ownsRow w.heap.size 51 2 v L.length (cellsN L)) ∧ Below w.heap.size w w'
set_option maxRecDepth 100000 in
set_option maxHeartbeats 16000000 in
theorem linesD (s : ByteArray) (w : World) (hs : s.size ≤ 9000 ∨ 65536 < s.size) : Calls Tryd.prog 15 #[.string s] w (LinesDoc s w) := by
  have hsl := sz_len s
  by_cases h1 : 65536 < s.size
  · have h1' : (65536 : Int) < (s.size : Int) := by omega
    have HL := Lib.hid (show linesF s.data.toList = ⟨[], 0, 2⟩ by unfold linesF; rw [if_pos (by omega)])
    clear hs hsl
    go_enter Tryd.func15, Tryd.ntmps15
    go_wp2_with (fail)
    go_ret3
    exact ⟨⟨_, [], by rw [HL.out]; rfl, by rw [HL.out]; rfl, Nat.zero_le _, World.ownsRow_nil _ _ _ _⟩, Below.refl _ _⟩
  have h1' : ¬ (65536 : Int) < (s.size : Int) := by omega
  have hs9 : s.size ≤ 9000 := by omega
  obtain ⟨ii, hi0, hz0, hz1, hz2⟩ := info_parts info51
  obtain ⟨S, hS⟩ : ∃ S, s ++ (⟨#[10]⟩ : ByteArray) = S := ⟨_, rfl⟩
  have hSd : S.data.toList = s.data.toList ++ [10] := by rw [← hS, app_data]
  have hSs : S.size = s.size + 1 := by rw [← sz_len, hSd, List.length_append, hsl]; rfl
  have HSD0 := Lib.hid hSd
  have HSL := Lib.hid hsl
  have HST := Lib.hid (docI_zero (X := s.data.toList) (by omega))
  clear hs h1 hsl hSd
  go_enter Tryd.func15, Tryd.ntmps15
  go_upto_region 8 with (fail)
  clear hS
  go_loopw [5, 6, 7, 8, 9, 10, 11] (fun ov tv av nv iv _ _ wr => ∃ (i number at_ : Nat) (tb : ByteArray) (L : List Ln), tv = .string tb ∧ av = .int .i64 at_ ∧ nv = .int .i64 number ∧ iv = .int .i64 i ∧ i ≤ s.size + 1 ∧ tb.size ≤ i ∧ L.length ≤ i ∧ number ≤ i + 1 ∧ at_ ≤ number ∧ wr.ownsRow w.heap.size 51 2 ov L.length (cellsN L) ∧ Below w.heap.size w wr ∧ (i ≤ s.data.toList.length → DocI s.data.toList i number at_ tb.data.toList (outF L)) ∧ (i = s.data.toList.length + 1 → linesF s.data.toList = ⟨outF L, 0, 0⟩)) (fun _ _ _ _ iv _ _ _ => s.size + 1 - (intOf iv).toNat)
  case atStart => exact ⟨0, 1, 1, ⟨#[]⟩, [], rfl, rfl, rfl, rfl, Nat.zero_le _, Nat.le_refl _, Nat.le_refl _, Nat.le_refl _, Nat.le_refl _, World.ownsRow_nil _ _ _ _, Below.refl _ _, fun _ => HST.out, fun h => by omega⟩
  case round =>
    obtain ⟨i, number, at_, tb, L, rfl, rfl, rfl, rfl, hi, htb, hLl, hnu, hat, own, bel, hdi, hend⟩ := hrel
    have HOW := Lib.hid own
    have BEL := Lib.hid bel
    have HDX := Lib.hid hdi
    have HEND := Lib.hid hend
    clear own bel hdi hend
    have i0 : (0 : Int) ≤ i := by omega
    by_cases hlt : i < S.size
    · have hlt' : (i : Int) < (S.size : Int) := by omega
      obtain ⟨c, hc⟩ : ∃ c, S[i] = c := ⟨_, rfl⟩
      have HCG := Lib.hid (show (s.data.toList ++ [10])[i]? = some c by
        rw [← HSD0.out, List.getElem?_eq_getElem (by rw [sz_len]; exact hlt), ← hc]; rfl)
      have HDI := Lib.hid (HDX.out (by rw [HSL.out]; omega))
      clear HDX HEND
      by_cases h10 : c = 10
      · have hd : ((c.toNat : Int) != 10) = false := by have := byte_is c 10; rw [decide_eq_true h10] at this; have h2 : ((c.toNat : Int) == 10) = true := this; simpa using h2
        have H10 := HCG
        rw [h10] at H10
        clear HCG h10
        cases hz : tb.size with
        | zero =>
          have h0' : ¬ (0 : Int) < (tb.size : Int) := by omega
          have HE := Lib.hid (show onE s.data.toList tb.data.toList i = false by
            unfold onE
            rw [show tb.data.toList = [] from List.eq_nil_of_length_eq_zero (by rw [sz_len]; exact hz)]; rfl)
          clear hz
          have HLINE := Lib.hid (docI_line HDI.out H10.out (by rw [HE.out]; simp))
          rw [HE.out] at HLINE
          simp only [Bool.false_eq_true, if_false] at HLINE
          obtain ⟨tb2, rfl⟩ : ∃ z, z = tb := ⟨_, rfl⟩
          have htb2s : tb2.size ≤ 9000 := by omega
          clear HDI HE
          go_upto_region 16 with (fail)
          -- the tail: T (letter tb2), HT: its data; HLINE
          have TD := Lib.hid (trimD tb2 wr (by omega))
          have htl := trim_len tb2.data.toList
          obtain ⟨t1, ht1⟩ : ∃ t1 : ByteArray, (⟨(Lib.trimS tb2.data.toList blanks).toArray⟩ : ByteArray) = t1 := ⟨_, rfl⟩
          have ht1d : t1.data.toList = Lib.trimS tb2.data.toList blanks := by rw [← ht1]
          have HT1 := Lib.hid ht1d
          have ht1s : t1.size ≤ 9001 := by rw [sz_drop ht1d]; have := sz_len tb2; omega
          have HEM := Lib.hid ht1
          clear htl ht1 ht1d
          go_wp2_with (fail)
          refine TD.out.mono ?_
          rintro y w1 ⟨rfl, rfl⟩
          rw [HEM.out]
          clear TD HEM
          go_upto_region 18 with (fail)
          go_loopw [10, 11] (fun tv kv wr2 => ∃ (t : ByteArray) (k : Nat), tv = .string t ∧ kv = .int .i64 k ∧ t.size ≤ 9001 ∧ k ≤ 9001 ∧ ((t = t1 ∧ k ≤ t.size ∧ (t1.data.toList.take k).count 59 = 0) ∨ (t.data.toList = docT tb2.data.toList ∧ t.size ≤ k)) ∧ wr2 = w1) (fun _ kv _ => 9001 - (intOf kv).toNat)
          case atStart => exact ⟨t1, 0, rfl, rfl, ht1s, Nat.zero_le _, .inl ⟨rfl, Nat.zero_le _, rfl⟩, rfl⟩
          case round =>
            obtain ⟨t, k, rfl, rfl, hts, hk, hor, rfl⟩ := hrel
            have HOR := Lib.hid hor
            clear hor
            have k0 : (0 : Int) ≤ k := by omega
            by_cases hkt : k < t.size
            · have hkt' : (k : Int) < (t.size : Int) := by omega
              have hcn : t = t1 ∧ (t1.data.toList.take k).count 59 = 0 := by
                rcases HOR.out with ⟨e, _, h⟩ | ⟨_, h⟩
                · exact ⟨e, h⟩
                · omega
              obtain ⟨rfl, hcn⟩ := hcn
              have HCN := Lib.hid hcn
              have HBY := Lib.hid (byte_at t k hkt)
              obtain ⟨c, hc⟩ : ∃ c, t[k] = c := ⟨_, rfl⟩
              rw [hc] at HBY
              clear hcn HOR
              by_cases h59 : c = 59
              · have hd : ((c.toNat : Int) == 59) = true := by have := byte_is c 59; rw [decide_eq_true h59] at this; exact this
                obtain ⟨nk, hsl, hnk⟩ := slice_to t k (by omega) wr
                have hnks : nk.size ≤ k := by rw [sz_drop hnk, List.length_take]; omega
                have TD := Lib.hid (trimD nk wr (by omega))
                obtain ⟨t2, ht2⟩ : ∃ t2 : ByteArray, (⟨(Lib.trimS nk.data.toList blanks).toArray⟩ : ByteArray) = t2 := ⟨_, rfl⟩
                have ht2d : t2.data.toList = Lib.trimS nk.data.toList blanks := by rw [← ht2]
                have ht2s : t2.size ≤ k := by rw [sz_drop ht2d]; have := trim_len nk.data.toList; have := sz_len nk; omega
                have HT2 := Lib.hid (show t2.data.toList = docT tb2.data.toList by
                  unfold docT
                  have hx : t.data.toList = t.data.toList.take k ++ 59 :: t.data.toList.drop (k + 1) := by
                    have h1 := (List.take_append_drop (k + 1) t.data.toList).symm
                    rw [HBY.out, h59] at h1
                    simpa using h1
                  rw [ht2d, hnk, ← HT1.out]
                  conv => rhs; rw [hx]
                  rw [cut_app HCN.out])
                have HEM := Lib.hid ht2
                clear hnk ht2 ht2d h59
                go_wp2_with (fail)
                refine TD.out.mono ?_
                rintro y w2 ⟨rfl, rfl⟩
                rw [HEM.out]
                go_wp2_with (fail)
                go_roundw
                case rel => exact ⟨t2, k + 1, rfl, by go_num, by omega, by omega, .inr ⟨HT2.out, by omega⟩, by first | rfl | trivial⟩
                case measure => simp [intOf]; omega
              · have hd : ((c.toNat : Int) == 59) = false := by have := byte_is c 59; rw [decide_eq_false h59] at this; exact this
                have HNE := Lib.hid h59
                clear h59
                go_wp2_with (fail)
                go_roundw
                case rel => exact ⟨t, k + 1, rfl, by go_num, by omega, by omega, .inl ⟨rfl, by omega, by rw [HBY.out, List.count_append, HCN.out, List.count_cons_of_ne (by have := HNE.out; simpa using this)]; rfl⟩, by first | rfl | trivial⟩
                case measure => simp [intOf]; omega
            · have hkt' : ¬ (k : Int) < (t.size : Int) := by omega
              have HTF := Lib.hid (show t.data.toList = docT tb2.data.toList by
                rcases HOR.out with ⟨rfl, h1, h2⟩ | ⟨h, _⟩
                · rw [List.take_of_length_le (by rw [sz_len]; omega)] at h2
                  unfold docT
                  rw [← HT1.out, cut_none h2, HT1.out, trim_idem]
                · exact h)
              have HSD := Lib.hid (doc_said tb2.data.toList)
              clear HOR HT1
              generalize hdt : docT tb2.data.toList = DT at *
              clear hdt
              cases hz : t.size with
              | zero =>
                have hte : t = ⟨#[]⟩ := ba_inj (List.eq_nil_of_length_eq_zero (by rw [sz_len]; exact hz))
                have hsd := HSD.out
                rw [← HTF.out, hte] at hsd
                have HSE := Lib.hid (show saidF tb2.data.toList = [] from hsd.symm)
                have hlin := HLINE.out
                rw [if_pos HSE.out] at hlin
                have STEP := Lib.hid (doc_step H10.out hlin)
                have h4k : ¬ (4096 : Int) < (t.size : Int) := by omega
                have hem2 : t.toList.isEmpty = true := by rw [ByteArray.toList_eq, hte]; rfl
                clear hlin hsd hz HLINE HTF HSD HSE hte
                go_wp2_with (fail)
                go_roundw
                case rel => exact ⟨i + 1, number + 1, number + 1, ⟨#[]⟩, L, rfl, by go_num, by go_num, by go_num, by omega, Nat.zero_le _, by omega, by omega, by omega, HOW.out, BEL.out, STEP.out.1, STEP.out.2⟩
                case measure => simp [intOf]; omega
              | succ n =>
                have h0 : 0 < t.size := by omega
                have hne2 : t.toList.isEmpty = false := by
                  rw [ByteArray.toList_eq]
                  cases hq : t.data.toList with
                  | nil => have := sz_len t; rw [hq] at this; simp at this; omega
                  | cons a b => rfl
                have HCO := Lib.hid (cons_of_pos h0)
                obtain ⟨c, hc⟩ : ∃ c, t[0] = c := ⟨_, rfl⟩
                rw [hc] at HCO
                by_cases h35 : c = 35
                · have hd : ((c.toNat : Int) == 35) = true := by have := byte_is c 35; rw [decide_eq_true h35] at this; exact this
                  have hsd := HSD.out
                  rw [← HTF.out, if_pos ((pre_cons _).2 ⟨_, by rw [HCO.out, h35]⟩)] at hsd
                  have HSE := Lib.hid (show saidF tb2.data.toList = [] from hsd.symm)
                  have hlin := HLINE.out
                  rw [if_pos HSE.out] at hlin
                  have STEP := Lib.hid (doc_step H10.out hlin)
                  clear hlin hsd HLINE HTF HSD HSE h35 hz HCO
                  go_wp2_with (fail)
                  go_roundw
                  case rel => exact ⟨i + 1, number + 1, number + 1, ⟨#[]⟩, L, rfl, by go_num, by go_num, by go_num, by omega, Nat.zero_le _, by omega, by omega, by omega, HOW.out, BEL.out, STEP.out.1, STEP.out.2⟩
                  case measure => simp [intOf]; omega
                · have hd : ((c.toNat : Int) == 35) = false := by have := byte_is c 35; rw [decide_eq_false h35] at this; exact this
                  have hsd := HSD.out
                  rw [if_neg (fun hp => by
                    obtain ⟨u, hu⟩ := (pre_cons _).1 hp
                    rw [← HTF.out, HCO.out] at hu
                    exact h35 (List.cons.inj hu).1), ← HTF.out] at hsd
                  have HSE := Lib.hid hsd.symm
                  have hnn : ¬ saidF tb2.data.toList = [] := by rw [HSE.out, HCO.out]; simp
                  have hlin := HLINE.out
                  rw [if_neg hnn, HSE.out, sz_len] at hlin
                  clear hsd HLINE HTF HSD h35 hz HCO hnn
                  by_cases hlg : 4096 < t.size
                  · have hlg' : (4096 : Int) < (t.size : Int) := by omega
                    rw [if_pos hlg] at hlin
                    have HLX := Lib.hid hlin
                    clear hlin
                    go_wp2_with (fail)
                    go_ret3
                    exact ⟨⟨_, [], by rw [HLX.out]; rfl, by rw [HLX.out]; rfl, Nat.zero_le _, World.ownsRow_nil _ _ _ _⟩, BEL.out⟩
                  · have hlg' : ¬ (4096 : Int) < (t.size : Int) := by omega
                    rw [if_neg hlg] at hlin
                    have STEP := Lib.hid (doc_step H10.out hlin)
                    have hva := HOW.out.alloc (.cells #[.int .i64 (at_ : Int), .string t] 51)
                    have hnw := Lib.hid (World.news_of_block (cs := #[.int .i64 (at_ : Int), .string t]) (t := 51) (fr := (0, 0)) (heap_alloc_new wr (.cells #[.int .i64 (at_ : Int), .string t] 51)))
                    have hsz4 : w.heap.size ≤ (wr.alloc (.cells #[.int .i64 (at_ : Int), .string t] 51)).heap.size := by have := BEL.out.size; simp; omega
                    clear hlin
                    go_wp2_with (at_builtin; refine wpList_append_own_at _ rfl _ _ 38 rfl w.heap.size 51 ii (.agg #[.int .i64 0, .string ByteArray.empty]) 2 24 Tryd.underlying38 hi0 hz0 hz1 hz2 rfl (by decide) _ L.length (cellsN L) rfl hva ⟨wr.heap.size, 0, none⟩ 1 1 [.int .i64 (at_ : Int), .string t] rfl rfl hnw.out (by simp [Value.oneCell']) (by simp only [maxLen]; omega) (by omega) hsz4 ?_; intro v5 w5 own5 gr5 nil5 at5)
                    have B5 := Lib.hid (below_grown' (BEL.out.alloc BEL.out.size _) gr5 (fun k e => (HOW.out.lt k e).1) hsz4)
                    have e5 : cellsN L ++ [.int .i64 (at_ : Int), .string t] = cellsN (L ++ [(⟨at_, t⟩ : Ln)]) := by rw [cellsN_snoc]; rfl
                    rw [e5, show L.length + 1 = (L ++ [(⟨at_, t⟩ : Ln)]).length by simp] at own5
                    have HO5 := Lib.hid own5
                    have HOF := Lib.hid (show outF (L ++ [(⟨at_, t⟩ : Ln)]) = outF L ++ [(at_, t.data.toList)] by unfold outF; rw [List.map_append]; rfl)
                    clear own5 gr5 nil5 at5 hva hsz4 e5
                    go_wp2
                    go_roundw
                    case rel => exact ⟨i + 1, number + 1, number + 1, ⟨#[]⟩, L ++ [⟨at_, t⟩], rfl, by go_num, by go_num, by go_num, by omega, Nat.zero_le _, by simp; omega, by omega, by omega, HO5.out, B5.out, by rw [HOF.out]; exact STEP.out.1, by rw [HOF.out]; exact STEP.out.2⟩
                    case measure => simp [intOf]; omega
        | succ n =>
          have h0' : (0 : Int) < (tb.size : Int) := by omega
          have he : (tb.size : Int) - 1 = (n : Int) := by omega
          have hn : n < tb.size := by omega
          have hn0 : (0 : Int) ≤ (n : Int) := by omega
          have hn1 : (n : Int) < (tb.size : Int) := by omega
          have hn2 : n ≤ 9001 := by omega
          have HSN := Lib.hid (snoc_of_succ hz)
          have HZ := Lib.hid hz
          obtain ⟨d, hdd⟩ : ∃ d, tb[n] = d := ⟨_, rfl⟩
          rw [hdd] at HSN
          have hl1 : lastIs tb.data.toList = decide (d = 92) := by
            rw [HSN.out]; unfold lastIs; rw [List.getLast?_concat]
            by_cases h : d = 92
            · subst h; rfl
            · rw [decide_eq_false h]; simp [h]
          have HL1 := Lib.hid hl1
          clear hl1 hz
          by_cases h92 : d = 92
          · have hd2 : ((d.toNat : Int) == 92) = true := by have := byte_is d 92; rw [decide_eq_true h92] at this; exact this
            rw [decide_eq_true h92] at HL1
            clear h92
            obtain ⟨nx, hsl, hnx⟩ := slice_to S i (by omega) wr
            have hnxs : nx.size ≤ 9001 := by rw [sz_drop hnx, List.length_take, sz_len]; omega
            have EW := Lib.hid (ends_walk nx wr (by omega))
            have hX : nx.data.toList = s.data.toList.take i := by rw [hnx, HSD0.out, List.take_append_of_le_length (by rw [HSL.out]; omega)]
            rw [hX] at EW
            clear hnx hX
            cases hE2 : lastIs (s.data.toList.take i) with
            | false =>
              have HE := Lib.hid (show onE s.data.toList tb.data.toList i = false by unfold onE; rw [hE2, Bool.and_false])
              rw [hE2] at EW
              clear hE2 HL1 HSN
              go_wp2_with (fail)
              refine EW.out.mono ?_
              rintro y w1 ⟨rfl, rfl⟩
              clear EW hsl
              obtain ⟨wr, rfl⟩ : ∃ z, z = w1 := ⟨_, rfl⟩
              have HLINE := Lib.hid (docI_line HDI.out H10.out (by rw [HE.out]; simp))
              rw [HE.out] at HLINE
              simp only [Bool.false_eq_true, if_false] at HLINE
              obtain ⟨tb2, rfl⟩ : ∃ z, z = tb := ⟨_, rfl⟩
              have htb2s : tb2.size ≤ 9000 := by omega
              clear HDI HE
              go_upto_region 16 with (fail)
              -- the tail: T (letter tb2), HT: its data; HLINE
              have TD := Lib.hid (trimD tb2 wr (by omega))
              have htl := trim_len tb2.data.toList
              obtain ⟨t1, ht1⟩ : ∃ t1 : ByteArray, (⟨(Lib.trimS tb2.data.toList blanks).toArray⟩ : ByteArray) = t1 := ⟨_, rfl⟩
              have ht1d : t1.data.toList = Lib.trimS tb2.data.toList blanks := by rw [← ht1]
              have HT1 := Lib.hid ht1d
              have ht1s : t1.size ≤ 9001 := by rw [sz_drop ht1d]; have := sz_len tb2; omega
              have HEM := Lib.hid ht1
              clear htl ht1 ht1d
              go_wp2_with (fail)
              refine TD.out.mono ?_
              rintro y w1 ⟨rfl, rfl⟩
              rw [HEM.out]
              clear TD HEM
              go_upto_region 18 with (fail)
              go_loopw [10, 11] (fun tv kv wr2 => ∃ (t : ByteArray) (k : Nat), tv = .string t ∧ kv = .int .i64 k ∧ t.size ≤ 9001 ∧ k ≤ 9001 ∧ ((t = t1 ∧ k ≤ t.size ∧ (t1.data.toList.take k).count 59 = 0) ∨ (t.data.toList = docT tb2.data.toList ∧ t.size ≤ k)) ∧ wr2 = w1) (fun _ kv _ => 9001 - (intOf kv).toNat)
              case atStart => exact ⟨t1, 0, rfl, rfl, ht1s, Nat.zero_le _, .inl ⟨rfl, Nat.zero_le _, rfl⟩, rfl⟩
              case round =>
                obtain ⟨t, k, rfl, rfl, hts, hk, hor, rfl⟩ := hrel
                have HOR := Lib.hid hor
                clear hor
                have k0 : (0 : Int) ≤ k := by omega
                by_cases hkt : k < t.size
                · have hkt' : (k : Int) < (t.size : Int) := by omega
                  have hcn : t = t1 ∧ (t1.data.toList.take k).count 59 = 0 := by
                    rcases HOR.out with ⟨e, _, h⟩ | ⟨_, h⟩
                    · exact ⟨e, h⟩
                    · omega
                  obtain ⟨rfl, hcn⟩ := hcn
                  have HCN := Lib.hid hcn
                  have HBY := Lib.hid (byte_at t k hkt)
                  obtain ⟨c, hc⟩ : ∃ c, t[k] = c := ⟨_, rfl⟩
                  rw [hc] at HBY
                  clear hcn HOR
                  by_cases h59 : c = 59
                  · have hd : ((c.toNat : Int) == 59) = true := by have := byte_is c 59; rw [decide_eq_true h59] at this; exact this
                    obtain ⟨nk, hsl, hnk⟩ := slice_to t k (by omega) wr
                    have hnks : nk.size ≤ k := by rw [sz_drop hnk, List.length_take]; omega
                    have TD := Lib.hid (trimD nk wr (by omega))
                    obtain ⟨t2, ht2⟩ : ∃ t2 : ByteArray, (⟨(Lib.trimS nk.data.toList blanks).toArray⟩ : ByteArray) = t2 := ⟨_, rfl⟩
                    have ht2d : t2.data.toList = Lib.trimS nk.data.toList blanks := by rw [← ht2]
                    have ht2s : t2.size ≤ k := by rw [sz_drop ht2d]; have := trim_len nk.data.toList; have := sz_len nk; omega
                    have HT2 := Lib.hid (show t2.data.toList = docT tb2.data.toList by
                      unfold docT
                      have hx : t.data.toList = t.data.toList.take k ++ 59 :: t.data.toList.drop (k + 1) := by
                        have h1 := (List.take_append_drop (k + 1) t.data.toList).symm
                        rw [HBY.out, h59] at h1
                        simpa using h1
                      rw [ht2d, hnk, ← HT1.out]
                      conv => rhs; rw [hx]
                      rw [cut_app HCN.out])
                    have HEM := Lib.hid ht2
                    clear hnk ht2 ht2d h59
                    go_wp2_with (fail)
                    refine TD.out.mono ?_
                    rintro y w2 ⟨rfl, rfl⟩
                    rw [HEM.out]
                    go_wp2_with (fail)
                    go_roundw
                    case rel => exact ⟨t2, k + 1, rfl, by go_num, by omega, by omega, .inr ⟨HT2.out, by omega⟩, by first | rfl | trivial⟩
                    case measure => simp [intOf]; omega
                  · have hd : ((c.toNat : Int) == 59) = false := by have := byte_is c 59; rw [decide_eq_false h59] at this; exact this
                    have HNE := Lib.hid h59
                    clear h59
                    go_wp2_with (fail)
                    go_roundw
                    case rel => exact ⟨t, k + 1, rfl, by go_num, by omega, by omega, .inl ⟨rfl, by omega, by rw [HBY.out, List.count_append, HCN.out, List.count_cons_of_ne (by have := HNE.out; simpa using this)]; rfl⟩, by first | rfl | trivial⟩
                    case measure => simp [intOf]; omega
                · have hkt' : ¬ (k : Int) < (t.size : Int) := by omega
                  have HTF := Lib.hid (show t.data.toList = docT tb2.data.toList by
                    rcases HOR.out with ⟨rfl, h1, h2⟩ | ⟨h, _⟩
                    · rw [List.take_of_length_le (by rw [sz_len]; omega)] at h2
                      unfold docT
                      rw [← HT1.out, cut_none h2, HT1.out, trim_idem]
                    · exact h)
                  have HSD := Lib.hid (doc_said tb2.data.toList)
                  clear HOR HT1
                  generalize hdt : docT tb2.data.toList = DT at *
                  clear hdt
                  cases hz : t.size with
                  | zero =>
                    have hte : t = ⟨#[]⟩ := ba_inj (List.eq_nil_of_length_eq_zero (by rw [sz_len]; exact hz))
                    have hsd := HSD.out
                    rw [← HTF.out, hte] at hsd
                    have HSE := Lib.hid (show saidF tb2.data.toList = [] from hsd.symm)
                    have hlin := HLINE.out
                    rw [if_pos HSE.out] at hlin
                    have STEP := Lib.hid (doc_step H10.out hlin)
                    have h4k : ¬ (4096 : Int) < (t.size : Int) := by omega
                    have hem2 : t.toList.isEmpty = true := by rw [ByteArray.toList_eq, hte]; rfl
                    clear hlin hsd hz HLINE HTF HSD HSE hte
                    go_wp2_with (fail)
                    go_roundw
                    case rel => exact ⟨i + 1, number + 1, number + 1, ⟨#[]⟩, L, rfl, by go_num, by go_num, by go_num, by omega, Nat.zero_le _, by omega, by omega, by omega, HOW.out, BEL.out, STEP.out.1, STEP.out.2⟩
                    case measure => simp [intOf]; omega
                  | succ n =>
                    have h0 : 0 < t.size := by omega
                    have hne2 : t.toList.isEmpty = false := by
                      rw [ByteArray.toList_eq]
                      cases hq : t.data.toList with
                      | nil => have := sz_len t; rw [hq] at this; simp at this; omega
                      | cons a b => rfl
                    have HCO := Lib.hid (cons_of_pos h0)
                    obtain ⟨c, hc⟩ : ∃ c, t[0] = c := ⟨_, rfl⟩
                    rw [hc] at HCO
                    by_cases h35 : c = 35
                    · have hd : ((c.toNat : Int) == 35) = true := by have := byte_is c 35; rw [decide_eq_true h35] at this; exact this
                      have hsd := HSD.out
                      rw [← HTF.out, if_pos ((pre_cons _).2 ⟨_, by rw [HCO.out, h35]⟩)] at hsd
                      have HSE := Lib.hid (show saidF tb2.data.toList = [] from hsd.symm)
                      have hlin := HLINE.out
                      rw [if_pos HSE.out] at hlin
                      have STEP := Lib.hid (doc_step H10.out hlin)
                      clear hlin hsd HLINE HTF HSD HSE h35 hz HCO
                      go_wp2_with (fail)
                      go_roundw
                      case rel => exact ⟨i + 1, number + 1, number + 1, ⟨#[]⟩, L, rfl, by go_num, by go_num, by go_num, by omega, Nat.zero_le _, by omega, by omega, by omega, HOW.out, BEL.out, STEP.out.1, STEP.out.2⟩
                      case measure => simp [intOf]; omega
                    · have hd : ((c.toNat : Int) == 35) = false := by have := byte_is c 35; rw [decide_eq_false h35] at this; exact this
                      have hsd := HSD.out
                      rw [if_neg (fun hp => by
                        obtain ⟨u, hu⟩ := (pre_cons _).1 hp
                        rw [← HTF.out, HCO.out] at hu
                        exact h35 (List.cons.inj hu).1), ← HTF.out] at hsd
                      have HSE := Lib.hid hsd.symm
                      have hnn : ¬ saidF tb2.data.toList = [] := by rw [HSE.out, HCO.out]; simp
                      have hlin := HLINE.out
                      rw [if_neg hnn, HSE.out, sz_len] at hlin
                      clear hsd HLINE HTF HSD h35 hz HCO hnn
                      by_cases hlg : 4096 < t.size
                      · have hlg' : (4096 : Int) < (t.size : Int) := by omega
                        rw [if_pos hlg] at hlin
                        have HLX := Lib.hid hlin
                        clear hlin
                        go_wp2_with (fail)
                        go_ret3
                        exact ⟨⟨_, [], by rw [HLX.out]; rfl, by rw [HLX.out]; rfl, Nat.zero_le _, World.ownsRow_nil _ _ _ _⟩, BEL.out⟩
                      · have hlg' : ¬ (4096 : Int) < (t.size : Int) := by omega
                        rw [if_neg hlg] at hlin
                        have STEP := Lib.hid (doc_step H10.out hlin)
                        have hva := HOW.out.alloc (.cells #[.int .i64 (at_ : Int), .string t] 51)
                        have hnw := Lib.hid (World.news_of_block (cs := #[.int .i64 (at_ : Int), .string t]) (t := 51) (fr := (0, 0)) (heap_alloc_new wr (.cells #[.int .i64 (at_ : Int), .string t] 51)))
                        have hsz4 : w.heap.size ≤ (wr.alloc (.cells #[.int .i64 (at_ : Int), .string t] 51)).heap.size := by have := BEL.out.size; simp; omega
                        clear hlin
                        go_wp2_with (at_builtin; refine wpList_append_own_at _ rfl _ _ 38 rfl w.heap.size 51 ii (.agg #[.int .i64 0, .string ByteArray.empty]) 2 24 Tryd.underlying38 hi0 hz0 hz1 hz2 rfl (by decide) _ L.length (cellsN L) rfl hva ⟨wr.heap.size, 0, none⟩ 1 1 [.int .i64 (at_ : Int), .string t] rfl rfl hnw.out (by simp [Value.oneCell']) (by simp only [maxLen]; omega) (by omega) hsz4 ?_; intro v5 w5 own5 gr5 nil5 at5)
                        have B5 := Lib.hid (below_grown' (BEL.out.alloc BEL.out.size _) gr5 (fun k e => (HOW.out.lt k e).1) hsz4)
                        have e5 : cellsN L ++ [.int .i64 (at_ : Int), .string t] = cellsN (L ++ [(⟨at_, t⟩ : Ln)]) := by rw [cellsN_snoc]; rfl
                        rw [e5, show L.length + 1 = (L ++ [(⟨at_, t⟩ : Ln)]).length by simp] at own5
                        have HO5 := Lib.hid own5
                        have HOF := Lib.hid (show outF (L ++ [(⟨at_, t⟩ : Ln)]) = outF L ++ [(at_, t.data.toList)] by unfold outF; rw [List.map_append]; rfl)
                        clear own5 gr5 nil5 at5 hva hsz4 e5
                        go_wp2
                        go_roundw
                        case rel => exact ⟨i + 1, number + 1, number + 1, ⟨#[]⟩, L ++ [⟨at_, t⟩], rfl, by go_num, by go_num, by go_num, by omega, Nat.zero_le _, by simp; omega, by omega, by omega, HO5.out, B5.out, by rw [HOF.out]; exact STEP.out.1, by rw [HOF.out]; exact STEP.out.2⟩
                        case measure => simp [intOf]; omega
            | true =>
              have HE := Lib.hid (show onE s.data.toList tb.data.toList i = true by unfold onE; rw [hE2, HL1.out]; rfl)
              rw [hE2] at EW
              obtain ⟨nt, hsl2, hnt⟩ := slice_to tb n (by omega) wr
              have HNT := Lib.hid (show nt.data.toList = tb.data.toList.dropLast by rw [hnt]; conv => { rhs; rw [HSN.out] }; rw [List.dropLast_concat])
              have hnts : nt.size ≤ n := by rw [sz_drop hnt, List.length_take]; omega
              clear hE2 HL1 HSN hnt
              go_wp2_with (fail)
              refine EW.out.mono ?_
              rintro y w1 ⟨rfl, rfl⟩
              clear EW hsl
              obtain ⟨wr, rfl⟩ : ∃ z, z = w1 := ⟨_, rfl⟩
              by_cases hlast : i < s.size
              · have hl' : (i : Int) + 1 < (S.size : Int) := by omega
                have NXT := Lib.hid (docI_stroke HDI.out (by have := H10.out; rw [List.getElem?_append_left (by rw [HSL.out]; exact hlast)] at this; exact this) HE.out)
                rw [← HNT.out] at NXT
                clear HDI HE
                go_wp2_with (fail)
                go_roundw
                case rel => exact ⟨i + 1, number + 1, at_, nt, L, rfl, rfl, by go_num, by go_num, by omega, by omega, by omega, by omega, by omega, HOW.out, BEL.out, fun _ => NXT.out, fun h => by have := HSL.out; omega⟩
                case measure => simp [intOf]; omega
              · have hl' : ¬ (i : Int) + 1 < (S.size : Int) := by omega
                have HLINE := Lib.hid (docI_line HDI.out H10.out (fun h => by have := HSL.out; omega))
                rw [HE.out] at HLINE
                simp only [if_true] at HLINE
                rw [← HNT.out] at HLINE
                obtain ⟨tb2, htb2⟩ : ∃ z, nt = z := ⟨_, rfl⟩
                have htb2s : tb2.size ≤ 9000 := by rw [← htb2]; omega
                rw [htb2] at HLINE hsl2
                clear HDI HE HNT hnts htb2
                go_upto_region 16 with (fail)
                clear hsl2
                -- the tail: T (letter tb2), HT: its data; HLINE
                have TD := Lib.hid (trimD tb2 wr (by omega))
                have htl := trim_len tb2.data.toList
                obtain ⟨t1, ht1⟩ : ∃ t1 : ByteArray, (⟨(Lib.trimS tb2.data.toList blanks).toArray⟩ : ByteArray) = t1 := ⟨_, rfl⟩
                have ht1d : t1.data.toList = Lib.trimS tb2.data.toList blanks := by rw [← ht1]
                have HT1 := Lib.hid ht1d
                have ht1s : t1.size ≤ 9001 := by rw [sz_drop ht1d]; have := sz_len tb2; omega
                have HEM := Lib.hid ht1
                clear htl ht1 ht1d
                go_wp2_with (fail)
                refine TD.out.mono ?_
                rintro y w1 ⟨rfl, rfl⟩
                rw [HEM.out]
                clear TD HEM
                go_upto_region 18 with (fail)
                go_loopw [10, 11] (fun tv kv wr2 => ∃ (t : ByteArray) (k : Nat), tv = .string t ∧ kv = .int .i64 k ∧ t.size ≤ 9001 ∧ k ≤ 9001 ∧ ((t = t1 ∧ k ≤ t.size ∧ (t1.data.toList.take k).count 59 = 0) ∨ (t.data.toList = docT tb2.data.toList ∧ t.size ≤ k)) ∧ wr2 = w1) (fun _ kv _ => 9001 - (intOf kv).toNat)
                case atStart => exact ⟨t1, 0, rfl, rfl, ht1s, Nat.zero_le _, .inl ⟨rfl, Nat.zero_le _, rfl⟩, rfl⟩
                case round =>
                  obtain ⟨t, k, rfl, rfl, hts, hk, hor, rfl⟩ := hrel
                  have HOR := Lib.hid hor
                  clear hor
                  have k0 : (0 : Int) ≤ k := by omega
                  by_cases hkt : k < t.size
                  · have hkt' : (k : Int) < (t.size : Int) := by omega
                    have hcn : t = t1 ∧ (t1.data.toList.take k).count 59 = 0 := by
                      rcases HOR.out with ⟨e, _, h⟩ | ⟨_, h⟩
                      · exact ⟨e, h⟩
                      · omega
                    obtain ⟨rfl, hcn⟩ := hcn
                    have HCN := Lib.hid hcn
                    have HBY := Lib.hid (byte_at t k hkt)
                    obtain ⟨c, hc⟩ : ∃ c, t[k] = c := ⟨_, rfl⟩
                    rw [hc] at HBY
                    clear hcn HOR
                    by_cases h59 : c = 59
                    · have hd : ((c.toNat : Int) == 59) = true := by have := byte_is c 59; rw [decide_eq_true h59] at this; exact this
                      obtain ⟨nk, hsl, hnk⟩ := slice_to t k (by omega) wr
                      have hnks : nk.size ≤ k := by rw [sz_drop hnk, List.length_take]; omega
                      have TD := Lib.hid (trimD nk wr (by omega))
                      obtain ⟨t2, ht2⟩ : ∃ t2 : ByteArray, (⟨(Lib.trimS nk.data.toList blanks).toArray⟩ : ByteArray) = t2 := ⟨_, rfl⟩
                      have ht2d : t2.data.toList = Lib.trimS nk.data.toList blanks := by rw [← ht2]
                      have ht2s : t2.size ≤ k := by rw [sz_drop ht2d]; have := trim_len nk.data.toList; have := sz_len nk; omega
                      have HT2 := Lib.hid (show t2.data.toList = docT tb2.data.toList by
                        unfold docT
                        have hx : t.data.toList = t.data.toList.take k ++ 59 :: t.data.toList.drop (k + 1) := by
                          have h1 := (List.take_append_drop (k + 1) t.data.toList).symm
                          rw [HBY.out, h59] at h1
                          simpa using h1
                        rw [ht2d, hnk, ← HT1.out]
                        conv => rhs; rw [hx]
                        rw [cut_app HCN.out])
                      have HEM := Lib.hid ht2
                      clear hnk ht2 ht2d h59
                      go_wp2_with (fail)
                      refine TD.out.mono ?_
                      rintro y w2 ⟨rfl, rfl⟩
                      rw [HEM.out]
                      go_wp2_with (fail)
                      go_roundw
                      case rel => exact ⟨t2, k + 1, rfl, by go_num, by omega, by omega, .inr ⟨HT2.out, by omega⟩, by first | rfl | trivial⟩
                      case measure => simp [intOf]; omega
                    · have hd : ((c.toNat : Int) == 59) = false := by have := byte_is c 59; rw [decide_eq_false h59] at this; exact this
                      have HNE := Lib.hid h59
                      clear h59
                      go_wp2_with (fail)
                      go_roundw
                      case rel => exact ⟨t, k + 1, rfl, by go_num, by omega, by omega, .inl ⟨rfl, by omega, by rw [HBY.out, List.count_append, HCN.out, List.count_cons_of_ne (by have := HNE.out; simpa using this)]; rfl⟩, by first | rfl | trivial⟩
                      case measure => simp [intOf]; omega
                  · have hkt' : ¬ (k : Int) < (t.size : Int) := by omega
                    have HTF := Lib.hid (show t.data.toList = docT tb2.data.toList by
                      rcases HOR.out with ⟨rfl, h1, h2⟩ | ⟨h, _⟩
                      · rw [List.take_of_length_le (by rw [sz_len]; omega)] at h2
                        unfold docT
                        rw [← HT1.out, cut_none h2, HT1.out, trim_idem]
                      · exact h)
                    have HSD := Lib.hid (doc_said tb2.data.toList)
                    clear HOR HT1
                    generalize hdt : docT tb2.data.toList = DT at *
                    clear hdt
                    cases hz : t.size with
                    | zero =>
                      have hte : t = ⟨#[]⟩ := ba_inj (List.eq_nil_of_length_eq_zero (by rw [sz_len]; exact hz))
                      have hsd := HSD.out
                      rw [← HTF.out, hte] at hsd
                      have HSE := Lib.hid (show saidF tb2.data.toList = [] from hsd.symm)
                      have hlin := HLINE.out
                      rw [if_pos HSE.out] at hlin
                      have STEP := Lib.hid (doc_step H10.out hlin)
                      have h4k : ¬ (4096 : Int) < (t.size : Int) := by omega
                      have hem2 : t.toList.isEmpty = true := by rw [ByteArray.toList_eq, hte]; rfl
                      clear hlin hsd hz HLINE HTF HSD HSE hte
                      go_wp2_with (fail)
                      go_roundw
                      case rel => exact ⟨i + 1, number + 1, number + 1, ⟨#[]⟩, L, rfl, by go_num, by go_num, by go_num, by omega, Nat.zero_le _, by omega, by omega, by omega, HOW.out, BEL.out, STEP.out.1, STEP.out.2⟩
                      case measure => simp [intOf]; omega
                    | succ n =>
                      have h0 : 0 < t.size := by omega
                      have hne2 : t.toList.isEmpty = false := by
                        rw [ByteArray.toList_eq]
                        cases hq : t.data.toList with
                        | nil => have := sz_len t; rw [hq] at this; simp at this; omega
                        | cons a b => rfl
                      have HCO := Lib.hid (cons_of_pos h0)
                      obtain ⟨c, hc⟩ : ∃ c, t[0] = c := ⟨_, rfl⟩
                      rw [hc] at HCO
                      by_cases h35 : c = 35
                      · have hd : ((c.toNat : Int) == 35) = true := by have := byte_is c 35; rw [decide_eq_true h35] at this; exact this
                        have hsd := HSD.out
                        rw [← HTF.out, if_pos ((pre_cons _).2 ⟨_, by rw [HCO.out, h35]⟩)] at hsd
                        have HSE := Lib.hid (show saidF tb2.data.toList = [] from hsd.symm)
                        have hlin := HLINE.out
                        rw [if_pos HSE.out] at hlin
                        have STEP := Lib.hid (doc_step H10.out hlin)
                        clear hlin hsd HLINE HTF HSD HSE h35 hz HCO
                        go_wp2_with (fail)
                        go_roundw
                        case rel => exact ⟨i + 1, number + 1, number + 1, ⟨#[]⟩, L, rfl, by go_num, by go_num, by go_num, by omega, Nat.zero_le _, by omega, by omega, by omega, HOW.out, BEL.out, STEP.out.1, STEP.out.2⟩
                        case measure => simp [intOf]; omega
                      · have hd : ((c.toNat : Int) == 35) = false := by have := byte_is c 35; rw [decide_eq_false h35] at this; exact this
                        have hsd := HSD.out
                        rw [if_neg (fun hp => by
                          obtain ⟨u, hu⟩ := (pre_cons _).1 hp
                          rw [← HTF.out, HCO.out] at hu
                          exact h35 (List.cons.inj hu).1), ← HTF.out] at hsd
                        have HSE := Lib.hid hsd.symm
                        have hnn : ¬ saidF tb2.data.toList = [] := by rw [HSE.out, HCO.out]; simp
                        have hlin := HLINE.out
                        rw [if_neg hnn, HSE.out, sz_len] at hlin
                        clear hsd HLINE HTF HSD h35 hz HCO hnn
                        by_cases hlg : 4096 < t.size
                        · have hlg' : (4096 : Int) < (t.size : Int) := by omega
                          rw [if_pos hlg] at hlin
                          have HLX := Lib.hid hlin
                          clear hlin
                          go_wp2_with (fail)
                          go_ret3
                          exact ⟨⟨_, [], by rw [HLX.out]; rfl, by rw [HLX.out]; rfl, Nat.zero_le _, World.ownsRow_nil _ _ _ _⟩, BEL.out⟩
                        · have hlg' : ¬ (4096 : Int) < (t.size : Int) := by omega
                          rw [if_neg hlg] at hlin
                          have STEP := Lib.hid (doc_step H10.out hlin)
                          have hva := HOW.out.alloc (.cells #[.int .i64 (at_ : Int), .string t] 51)
                          have hnw := Lib.hid (World.news_of_block (cs := #[.int .i64 (at_ : Int), .string t]) (t := 51) (fr := (0, 0)) (heap_alloc_new wr (.cells #[.int .i64 (at_ : Int), .string t] 51)))
                          have hsz4 : w.heap.size ≤ (wr.alloc (.cells #[.int .i64 (at_ : Int), .string t] 51)).heap.size := by have := BEL.out.size; simp; omega
                          clear hlin
                          go_wp2_with (at_builtin; refine wpList_append_own_at _ rfl _ _ 38 rfl w.heap.size 51 ii (.agg #[.int .i64 0, .string ByteArray.empty]) 2 24 Tryd.underlying38 hi0 hz0 hz1 hz2 rfl (by decide) _ L.length (cellsN L) rfl hva ⟨wr.heap.size, 0, none⟩ 1 1 [.int .i64 (at_ : Int), .string t] rfl rfl hnw.out (by simp [Value.oneCell']) (by simp only [maxLen]; omega) (by omega) hsz4 ?_; intro v5 w5 own5 gr5 nil5 at5)
                          have B5 := Lib.hid (below_grown' (BEL.out.alloc BEL.out.size _) gr5 (fun k e => (HOW.out.lt k e).1) hsz4)
                          have e5 : cellsN L ++ [.int .i64 (at_ : Int), .string t] = cellsN (L ++ [(⟨at_, t⟩ : Ln)]) := by rw [cellsN_snoc]; rfl
                          rw [e5, show L.length + 1 = (L ++ [(⟨at_, t⟩ : Ln)]).length by simp] at own5
                          have HO5 := Lib.hid own5
                          have HOF := Lib.hid (show outF (L ++ [(⟨at_, t⟩ : Ln)]) = outF L ++ [(at_, t.data.toList)] by unfold outF; rw [List.map_append]; rfl)
                          clear own5 gr5 nil5 at5 hva hsz4 e5
                          go_wp2
                          go_roundw
                          case rel => exact ⟨i + 1, number + 1, number + 1, ⟨#[]⟩, L ++ [⟨at_, t⟩], rfl, by go_num, by go_num, by go_num, by omega, Nat.zero_le _, by simp; omega, by omega, by omega, HO5.out, B5.out, by rw [HOF.out]; exact STEP.out.1, by rw [HOF.out]; exact STEP.out.2⟩
                          case measure => simp [intOf]; omega
          · have hd2 : ((d.toNat : Int) == 92) = false := by have := byte_is d 92; rw [decide_eq_false h92] at this; exact this
            rw [decide_eq_false h92] at HL1
            have HE := Lib.hid (show onE s.data.toList tb.data.toList i = false by unfold onE; rw [HL1.out]; rfl)
            clear h92 HL1 HSN
            have HLINE := Lib.hid (docI_line HDI.out H10.out (by rw [HE.out]; simp))
            rw [HE.out] at HLINE
            simp only [Bool.false_eq_true, if_false] at HLINE
            obtain ⟨tb2, rfl⟩ : ∃ z, z = tb := ⟨_, rfl⟩
            have htb2s : tb2.size ≤ 9000 := by omega
            clear HDI HE
            go_upto_region 16 with (fail)
            -- the tail: T (letter tb2), HT: its data; HLINE
            have TD := Lib.hid (trimD tb2 wr (by omega))
            have htl := trim_len tb2.data.toList
            obtain ⟨t1, ht1⟩ : ∃ t1 : ByteArray, (⟨(Lib.trimS tb2.data.toList blanks).toArray⟩ : ByteArray) = t1 := ⟨_, rfl⟩
            have ht1d : t1.data.toList = Lib.trimS tb2.data.toList blanks := by rw [← ht1]
            have HT1 := Lib.hid ht1d
            have ht1s : t1.size ≤ 9001 := by rw [sz_drop ht1d]; have := sz_len tb2; omega
            have HEM := Lib.hid ht1
            clear htl ht1 ht1d
            go_wp2_with (fail)
            refine TD.out.mono ?_
            rintro y w1 ⟨rfl, rfl⟩
            rw [HEM.out]
            clear TD HEM
            go_upto_region 18 with (fail)
            go_loopw [10, 11] (fun tv kv wr2 => ∃ (t : ByteArray) (k : Nat), tv = .string t ∧ kv = .int .i64 k ∧ t.size ≤ 9001 ∧ k ≤ 9001 ∧ ((t = t1 ∧ k ≤ t.size ∧ (t1.data.toList.take k).count 59 = 0) ∨ (t.data.toList = docT tb2.data.toList ∧ t.size ≤ k)) ∧ wr2 = w1) (fun _ kv _ => 9001 - (intOf kv).toNat)
            case atStart => exact ⟨t1, 0, rfl, rfl, ht1s, Nat.zero_le _, .inl ⟨rfl, Nat.zero_le _, rfl⟩, rfl⟩
            case round =>
              obtain ⟨t, k, rfl, rfl, hts, hk, hor, rfl⟩ := hrel
              have HOR := Lib.hid hor
              clear hor
              have k0 : (0 : Int) ≤ k := by omega
              by_cases hkt : k < t.size
              · have hkt' : (k : Int) < (t.size : Int) := by omega
                have hcn : t = t1 ∧ (t1.data.toList.take k).count 59 = 0 := by
                  rcases HOR.out with ⟨e, _, h⟩ | ⟨_, h⟩
                  · exact ⟨e, h⟩
                  · omega
                obtain ⟨rfl, hcn⟩ := hcn
                have HCN := Lib.hid hcn
                have HBY := Lib.hid (byte_at t k hkt)
                obtain ⟨c, hc⟩ : ∃ c, t[k] = c := ⟨_, rfl⟩
                rw [hc] at HBY
                clear hcn HOR
                by_cases h59 : c = 59
                · have hd : ((c.toNat : Int) == 59) = true := by have := byte_is c 59; rw [decide_eq_true h59] at this; exact this
                  obtain ⟨nk, hsl, hnk⟩ := slice_to t k (by omega) wr
                  have hnks : nk.size ≤ k := by rw [sz_drop hnk, List.length_take]; omega
                  have TD := Lib.hid (trimD nk wr (by omega))
                  obtain ⟨t2, ht2⟩ : ∃ t2 : ByteArray, (⟨(Lib.trimS nk.data.toList blanks).toArray⟩ : ByteArray) = t2 := ⟨_, rfl⟩
                  have ht2d : t2.data.toList = Lib.trimS nk.data.toList blanks := by rw [← ht2]
                  have ht2s : t2.size ≤ k := by rw [sz_drop ht2d]; have := trim_len nk.data.toList; have := sz_len nk; omega
                  have HT2 := Lib.hid (show t2.data.toList = docT tb2.data.toList by
                    unfold docT
                    have hx : t.data.toList = t.data.toList.take k ++ 59 :: t.data.toList.drop (k + 1) := by
                      have h1 := (List.take_append_drop (k + 1) t.data.toList).symm
                      rw [HBY.out, h59] at h1
                      simpa using h1
                    rw [ht2d, hnk, ← HT1.out]
                    conv => rhs; rw [hx]
                    rw [cut_app HCN.out])
                  have HEM := Lib.hid ht2
                  clear hnk ht2 ht2d h59
                  go_wp2_with (fail)
                  refine TD.out.mono ?_
                  rintro y w2 ⟨rfl, rfl⟩
                  rw [HEM.out]
                  go_wp2_with (fail)
                  go_roundw
                  case rel => exact ⟨t2, k + 1, rfl, by go_num, by omega, by omega, .inr ⟨HT2.out, by omega⟩, by first | rfl | trivial⟩
                  case measure => simp [intOf]; omega
                · have hd : ((c.toNat : Int) == 59) = false := by have := byte_is c 59; rw [decide_eq_false h59] at this; exact this
                  have HNE := Lib.hid h59
                  clear h59
                  go_wp2_with (fail)
                  go_roundw
                  case rel => exact ⟨t, k + 1, rfl, by go_num, by omega, by omega, .inl ⟨rfl, by omega, by rw [HBY.out, List.count_append, HCN.out, List.count_cons_of_ne (by have := HNE.out; simpa using this)]; rfl⟩, by first | rfl | trivial⟩
                  case measure => simp [intOf]; omega
              · have hkt' : ¬ (k : Int) < (t.size : Int) := by omega
                have HTF := Lib.hid (show t.data.toList = docT tb2.data.toList by
                  rcases HOR.out with ⟨rfl, h1, h2⟩ | ⟨h, _⟩
                  · rw [List.take_of_length_le (by rw [sz_len]; omega)] at h2
                    unfold docT
                    rw [← HT1.out, cut_none h2, HT1.out, trim_idem]
                  · exact h)
                have HSD := Lib.hid (doc_said tb2.data.toList)
                clear HOR HT1
                generalize hdt : docT tb2.data.toList = DT at *
                clear hdt
                cases hz : t.size with
                | zero =>
                  have hte : t = ⟨#[]⟩ := ba_inj (List.eq_nil_of_length_eq_zero (by rw [sz_len]; exact hz))
                  have hsd := HSD.out
                  rw [← HTF.out, hte] at hsd
                  have HSE := Lib.hid (show saidF tb2.data.toList = [] from hsd.symm)
                  have hlin := HLINE.out
                  rw [if_pos HSE.out] at hlin
                  have STEP := Lib.hid (doc_step H10.out hlin)
                  have h4k : ¬ (4096 : Int) < (t.size : Int) := by omega
                  have hem2 : t.toList.isEmpty = true := by rw [ByteArray.toList_eq, hte]; rfl
                  clear hlin hsd hz HLINE HTF HSD HSE hte
                  go_wp2_with (fail)
                  go_roundw
                  case rel => exact ⟨i + 1, number + 1, number + 1, ⟨#[]⟩, L, rfl, by go_num, by go_num, by go_num, by omega, Nat.zero_le _, by omega, by omega, by omega, HOW.out, BEL.out, STEP.out.1, STEP.out.2⟩
                  case measure => simp [intOf]; omega
                | succ n =>
                  have h0 : 0 < t.size := by omega
                  have hne2 : t.toList.isEmpty = false := by
                    rw [ByteArray.toList_eq]
                    cases hq : t.data.toList with
                    | nil => have := sz_len t; rw [hq] at this; simp at this; omega
                    | cons a b => rfl
                  have HCO := Lib.hid (cons_of_pos h0)
                  obtain ⟨c, hc⟩ : ∃ c, t[0] = c := ⟨_, rfl⟩
                  rw [hc] at HCO
                  by_cases h35 : c = 35
                  · have hd : ((c.toNat : Int) == 35) = true := by have := byte_is c 35; rw [decide_eq_true h35] at this; exact this
                    have hsd := HSD.out
                    rw [← HTF.out, if_pos ((pre_cons _).2 ⟨_, by rw [HCO.out, h35]⟩)] at hsd
                    have HSE := Lib.hid (show saidF tb2.data.toList = [] from hsd.symm)
                    have hlin := HLINE.out
                    rw [if_pos HSE.out] at hlin
                    have STEP := Lib.hid (doc_step H10.out hlin)
                    clear hlin hsd HLINE HTF HSD HSE h35 hz HCO
                    go_wp2_with (fail)
                    go_roundw
                    case rel => exact ⟨i + 1, number + 1, number + 1, ⟨#[]⟩, L, rfl, by go_num, by go_num, by go_num, by omega, Nat.zero_le _, by omega, by omega, by omega, HOW.out, BEL.out, STEP.out.1, STEP.out.2⟩
                    case measure => simp [intOf]; omega
                  · have hd : ((c.toNat : Int) == 35) = false := by have := byte_is c 35; rw [decide_eq_false h35] at this; exact this
                    have hsd := HSD.out
                    rw [if_neg (fun hp => by
                      obtain ⟨u, hu⟩ := (pre_cons _).1 hp
                      rw [← HTF.out, HCO.out] at hu
                      exact h35 (List.cons.inj hu).1), ← HTF.out] at hsd
                    have HSE := Lib.hid hsd.symm
                    have hnn : ¬ saidF tb2.data.toList = [] := by rw [HSE.out, HCO.out]; simp
                    have hlin := HLINE.out
                    rw [if_neg hnn, HSE.out, sz_len] at hlin
                    clear hsd HLINE HTF HSD h35 hz HCO hnn
                    by_cases hlg : 4096 < t.size
                    · have hlg' : (4096 : Int) < (t.size : Int) := by omega
                      rw [if_pos hlg] at hlin
                      have HLX := Lib.hid hlin
                      clear hlin
                      go_wp2_with (fail)
                      go_ret3
                      exact ⟨⟨_, [], by rw [HLX.out]; rfl, by rw [HLX.out]; rfl, Nat.zero_le _, World.ownsRow_nil _ _ _ _⟩, BEL.out⟩
                    · have hlg' : ¬ (4096 : Int) < (t.size : Int) := by omega
                      rw [if_neg hlg] at hlin
                      have STEP := Lib.hid (doc_step H10.out hlin)
                      have hva := HOW.out.alloc (.cells #[.int .i64 (at_ : Int), .string t] 51)
                      have hnw := Lib.hid (World.news_of_block (cs := #[.int .i64 (at_ : Int), .string t]) (t := 51) (fr := (0, 0)) (heap_alloc_new wr (.cells #[.int .i64 (at_ : Int), .string t] 51)))
                      have hsz4 : w.heap.size ≤ (wr.alloc (.cells #[.int .i64 (at_ : Int), .string t] 51)).heap.size := by have := BEL.out.size; simp; omega
                      clear hlin
                      go_wp2_with (at_builtin; refine wpList_append_own_at _ rfl _ _ 38 rfl w.heap.size 51 ii (.agg #[.int .i64 0, .string ByteArray.empty]) 2 24 Tryd.underlying38 hi0 hz0 hz1 hz2 rfl (by decide) _ L.length (cellsN L) rfl hva ⟨wr.heap.size, 0, none⟩ 1 1 [.int .i64 (at_ : Int), .string t] rfl rfl hnw.out (by simp [Value.oneCell']) (by simp only [maxLen]; omega) (by omega) hsz4 ?_; intro v5 w5 own5 gr5 nil5 at5)
                      have B5 := Lib.hid (below_grown' (BEL.out.alloc BEL.out.size _) gr5 (fun k e => (HOW.out.lt k e).1) hsz4)
                      have e5 : cellsN L ++ [.int .i64 (at_ : Int), .string t] = cellsN (L ++ [(⟨at_, t⟩ : Ln)]) := by rw [cellsN_snoc]; rfl
                      rw [e5, show L.length + 1 = (L ++ [(⟨at_, t⟩ : Ln)]).length by simp] at own5
                      have HO5 := Lib.hid own5
                      have HOF := Lib.hid (show outF (L ++ [(⟨at_, t⟩ : Ln)]) = outF L ++ [(at_, t.data.toList)] by unfold outF; rw [List.map_append]; rfl)
                      clear own5 gr5 nil5 at5 hva hsz4 e5
                      go_wp2
                      go_roundw
                      case rel => exact ⟨i + 1, number + 1, number + 1, ⟨#[]⟩, L ++ [⟨at_, t⟩], rfl, by go_num, by go_num, by go_num, by omega, Nat.zero_le _, by simp; omega, by omega, by omega, HO5.out, B5.out, by rw [HOF.out]; exact STEP.out.1, by rw [HOF.out]; exact STEP.out.2⟩
                      case measure => simp [intOf]; omega
      · have hd : ((c.toNat : Int) != 10) = true := by have := byte_is c 10; rw [decide_eq_false h10] at this; have h2 : ((c.toNat : Int) == 10) = false := this; simpa using h2
        have hix : i < s.data.toList.length := by
          refine Nat.lt_of_not_le fun hl => ?_
          have h2 := HCG.out
          rw [List.getElem?_append_right hl] at h2
          have e : i - s.data.toList.length = 0 := by rw [HSL.out] at *; omega
          rw [e] at h2
          exact h10 (Option.some.inj h2).symm
        have NXT := Lib.hid (docI_byte HDI.out (by have := HCG.out; rw [List.getElem?_append_left hix] at this; exact this) h10)
        obtain ⟨nx, hsl, hnx⟩ := slice_one S i hlt wr
        rw [hc] at hnx
        have hnxs : nx.size = 1 := by rw [sz_drop hnx]; rfl
        obtain ⟨t2, ht2⟩ : ∃ z, tb ++ nx = z := ⟨_, rfl⟩
        have ht2s : t2.size ≤ i + 1 := by rw [← ht2, ByteArray.size_append]; omega
        rw [show tb.data.toList ++ [c] = t2.data.toList by rw [← ht2, app_data, hnx]] at NXT
        have HIX := Lib.hid hix
        clear hnx hix h10 HDI HCG
        go_wp2_with (fail)
        go_roundw
        case rel => exact ⟨i + 1, number, at_, t2, L, rfl, rfl, rfl, by go_num, by omega, ht2s, by omega, by omega, hat, HOW.out, BEL.out, fun _ => NXT.out, fun h => by have := HIX.out; omega⟩
        case measure => simp [intOf]; omega
    · have hlt' : ¬ (i : Int) < (S.size : Int) := by omega
      have HF := Lib.hid (HEND.out (by rw [HSL.out]; omega))
      clear HEND HDX
      go_wp2_with (fail)
      go_ret3
      exact ⟨⟨_, L, by rw [HF.out]; rfl, by rw [HF.out], by omega, HOW.out⟩, BEL.out⟩
end Go.Proofs.YtfioigbopagogaaDoor
