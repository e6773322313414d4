/- macro.Names, walked. -/
import Derived.Test.YtacajmknlknjkaaDoorM1
import Derived.Test.YtacajmknlknjkaaDoorA4
import Derived.Laws.AppendOwnNone
namespace Go.Proofs.YtacajmknlknjkaaDoor
open Go.RowKit
set_option linter.unusedVariables false
open Go.Maps Go.WideMaps
theorem wf64 {c : Int} (h1 : -9223372036854775808 ≤ c) (h2 : c ≤ 9223372036854775807) : (Lit.int .i64 c).wf = true := by
  simp only [Lit.wf, Bool.and_eq_true, decide_eq_true_eq]
  have e1 : IntKind.i64.min = -9223372036854775808 := by decide
  have e2 : IntKind.i64.max = 9223372036854775807 := by decide
  omega
theorem nmStep_mem {o : List (List UInt8)} {p x : List UInt8} : x ∈ nmStep o p → x ∈ o ∨ x = p := by
  unfold nmStep; split
  · exact .inl
  · intro h; rcases List.mem_append.1 h with h | h
    · exact .inl h
    · exact .inr (List.mem_singleton.1 h)
/-- What the map has counted. -/
def CntOk (cnt : List UInt8 → Int) (o : List (List UInt8)) (i : Nat) : Prop := (∀ x, 0 ≤ cnt x ∧ cnt x ≤ (i : Int) + 1) ∧ ∀ x, 0 < cnt x ↔ (x = [] ∨ x ∈ o)
theorem CntOk.step {cnt : List UInt8 → Int} {o : List (List UInt8)} {i : Nat} (h : CntOk cnt o i) (p : List UInt8) : CntOk (fun x => if x = p then cnt p + 1 else cnt x) (nmStep o p) (i + 1) := by
  obtain ⟨h1, h2⟩ := h
  refine ⟨fun x => ?_, fun x => ?_⟩
  · have a := h1 x; have b := h1 p
    dsimp only
    split <;> (push_cast; omega)
  · have a := h1 x; have b := h1 p
    dsimp only
    by_cases hx : x = p
    · subst hx
      rw [if_pos rfl]
      refine ⟨fun _ => ?_, fun _ => by omega⟩
      unfold nmStep
      split
      · assumption
      · exact .inr (List.mem_append_right _ (List.mem_singleton.2 rfl))
    · rw [if_neg hx, h2]
      constructor
      · rintro (h | h)
        · exact .inl h
        · right; unfold nmStep; split
          · exact h
          · exact List.mem_append_left _ h
      · rintro (h | h)
        · exact .inl h
        · rcases nmStep_mem h with h | h
          · exact .inr h
          · exact absurd h hx
theorem CntOk.one {cnt : List UInt8 → Int} {o : List (List UInt8)} {i : Nat} (h : CntOk cnt o i) (p : List UInt8) : cnt p + 1 = 1 ↔ ¬ (p = [] ∨ p ∈ o) := by
  rw [← h.2 p]
  have := h.1 p; omega
def NmSaid (s : ByteArray) (w : World) (y : Ending) (w' : World) : Prop :=
  (∃ (v : Value) (L : List ByteArray), y = .returned (.tuple #[v, errE (namesE s.data.toList)]) ∧ L.map (·.data.toList) = namesO s.data.toList ∧ L.length ≤ 65537 ∧ w'.ownsRow w.heap.size 9 1 v L.length (cellsS L)) ∧ Below w.heap.size w w'
set_option maxRecDepth 100000 in
set_option maxHeartbeats 4000000 in
theorem names14_walk (s : ByteArray) (w : World) (m : Int) (hm : w.cell? ⟨1, 0, none⟩ = some (.int .i64 m)) (hs : s.size ≤ 9223372036854775807) (hpz : ∀ p ∈ pcs s.data.toList, p.length ≤ 65536) :
    Calls Tryd.prog 14 #[.string s] w (NmSaid s w) := by
  have hsl := sz_len s
  by_cases h1 : 65536 < s.size
  · have PW := Lib.hid (parts_long s w h1 hs)
    have HE := Lib.hid (show namesE s.data.toList = 2 by unfold namesE; rw [if_pos (by omega)])
    clear hm hsl
    go_enter Tryd.func14, Tryd.ntmps14
    go_wp2_with (fail)
    refine PW.out.mono ?_
    rintro y w2 ⟨rfl, rfl⟩
    clear PW
    go_wp2_with (fail)
    go_ret2
    exact ⟨⟨_, [], by rw [HE.out]; rfl, by unfold namesO; rw [HE.out]; rfl, Nat.zero_le _, World.ownsRow_nil _ _ _ _⟩, Below.refl _ _⟩
  by_cases h2 : s.data.toList.count 36 % 2 = 1
  · have PW := Lib.hid (parts_form s w m hm (by omega) h2)
    have HE := Lib.hid (show namesE s.data.toList = 3 by unfold namesE; rw [if_neg (by omega), if_pos h2])
    clear hm hsl
    go_enter Tryd.func14, Tryd.ntmps14
    go_wp2_with (fail)
    refine PW.out.mono ?_
    rintro y w2 ⟨rfl, B2⟩
    clear PW
    go_wp2_with (fail)
    go_ret2
    exact ⟨⟨_, [], by rw [HE.out]; rfl, by unfold namesO; rw [HE.out]; rfl, Nat.zero_le _, World.ownsRow_nil _ _ _ _⟩, B2⟩
  have PW := Lib.hid (parts_ok s w m hm (by omega) (by omega))
  have HE := Lib.hid (show namesE s.data.toList = 0 by unfold namesE; rw [if_neg (by omega), if_neg h2])
  have HNP := Lib.hid (names_pcs s.data.toList (by omega))
  have hpl := pcs_len s.data.toList
  have hcl := List.count_le_length (a := (36 : UInt8)) (l := s.data.toList)
  have HSZ := Lib.hid (show (pcs s.data.toList).length ≤ 65537 by omega)
  have HPZ := Lib.hid hpz
  obtain ⟨ii, hi0, hz0, hz1, hz2⟩ := info_parts info9
  clear hm hsl h1 h2 hpl hcl hpz
  go_enter Tryd.func14, Tryd.ntmps14
  go_wp2_with (fail)
  refine PW.out.mono ?_
  rintro y w1 ⟨ps, hps, rfl, rfl⟩
  have hN : ps.length ≤ 65537 := by have := HSZ.out; rw [← hps, List.length_map] at this; exact this
  have B1 := Lib.hid (below_al (Below.refl w.heap.size w) (.cells (ps.map Value.string).toArray 9))
  have hPB : Blk (w.alloc (.cells (ps.map Value.string).toArray 9)) w.heap.size 9 (ps.map Value.string).toArray := Blk.new w 9 _
  have HPB := Lib.hid hPB
  have hsz1 := Lib.hid (show w.heap.size ≤ (w.alloc (.cells (ps.map Value.string).toArray 9)).heap.size by simp)
  have hpzz := Lib.hid (show ∀ i, i < ps.length → (ps.getD i ByteArray.empty).size ≤ 65536 from fun i hi => by
    rw [← sz_len]
    refine HPZ.out _ ?_
    rw [← hps]
    exact List.mem_map.2 ⟨_, by rw [List.getD_eq_getElem?_getD, List.getElem?_eq_getElem hi]; exact List.getElem_mem _, rfl⟩)
  clear PW HSZ hPB HPZ
  generalize w.alloc (Obj.cells (ps.map Value.string).toArray 9) = w1 at *
  have HPS := Lib.hid hps
  have hmm := @run_makeMap Tryd.prog
  obtain ⟨w2, hput, hM2, hG2⟩ := (MapSI.new w1).put (by decide) ⟨#[]⟩ (by decide) 1 (by decide)
  have HM2 := Lib.hid hM2
  have B2 := Lib.hid (below_grown' (below_al (Below.refl w1.heap.size w1) (.map #[] 0)) hG2 (fun k e => by cases e; exact Nat.le_refl _) (by simp))
  clear hps hM2 hG2
  go_upto_region 7 with (fail)
  generalize hgp : w.heap.size = gp at *
  generalize hbm : w1.heap.size = bm at *
  clear hput hmm
  go_loopw [6, 8, 9, 22] (fun uv _ _ iv wr => ∃ (i n : Nat) (cnt : List UInt8 → Int) (L : List ByteArray), iv = .int .i64 i ∧ i ≤ ps.length ∧ wr.ownsRow bm 9 1 uv L.length (cellsS L) ∧ uv.ownBlock ≠ some bm ∧ MapSI wr bm n cnt ∧ n ≤ i + 1 ∧ CntOk cnt (L.map (·.data.toList)) i ∧ L.map (·.data.toList) = nmF 0 ((ps.map (·.data.toList)).take i) [] ∧ L.length ≤ i ∧ Below bm w1 wr) (fun _ _ _ iv _ => ps.length - (intOf iv).toNat)
  case atStart => exact ⟨0, 1, _, [], rfl, Nat.zero_le _, World.ownsRow_nil _ _ _ _, by simp [Value.ownBlock], HM2.out, by omega, ⟨fun x => by dsimp only; split <;> decide, fun x => by
      dsimp only
      by_cases hx : x = []
      · subst hx; simp
      · rw [if_neg (by simpa using hx)]; simp [hx]⟩, rfl, Nat.zero_le _, B2.out⟩
  case round =>
    obtain ⟨i, n, cnt, L, rfl, hi, own, hob, hmp, hn, hco, hnm, hLl, bel⟩ := hrel
    have i0 : (0 : Int) ≤ i := by omega
    have HOW := Lib.hid own
    have HMP := Lib.hid hmp
    have HCO := Lib.hid hco
    have HNM := Lib.hid hnm
    have BEL := Lib.hid bel
    have HOB := Lib.hid hob
    clear own hmp hco hnm bel hob
    by_cases hlt : i < ps.length
    · have hlt' : (i : Int) < (ps.length : Int) := by omega
      have hgpl : gp < bm := by have := HPB.out.lt; omega
      have c0 : wr.cell? ⟨gp, i, none⟩ = some (.string (ps.getD i ByteArray.empty)) := by
        refine (BEL.out.cell (p := ⟨gp, i, none⟩) hgpl).trans ?_
        rw [HPB.out.cell]
        simp [List.getD_eq_getElem?_getD, hlt]
      have z0 := World.block_lt_of_cell? _ _ c0
      have hps2 : (ps.map (·.data.toList)).take (i + 1) = (ps.map (·.data.toList)).take i ++ [(ps.getD i ByteArray.empty).data.toList] := by
        rw [← List.map_take, ← List.map_take, takeS_succ hlt, List.map_append]; rfl
      have hsn := nmF_snoc ((ps.map (·.data.toList)).take i) (ps.getD i ByteArray.empty).data.toList [] 0
      rw [← hps2, ← HNM.out, List.length_take, List.length_map, Nat.min_eq_left hi, Nat.zero_add] at hsn
      have hpsz := hpzz.out i hlt
      have HSN := Lib.hid hsn
      clear hps2 hsn
      generalize ps.getD i ByteArray.empty = p at *
      rcases Nat.mod_two_eq_zero_or_one i with hm | hm
      · have hmd : (i : Int) % 2 = 0 := by omega
        have HS2 := Lib.hid (show L.map (·.data.toList) = nmF 0 ((ps.map (·.data.toList)).take (i + 1)) [] by rw [HSN.out, if_neg (by omega)])
        have HC2 := Lib.hid (show CntOk cnt (L.map (·.data.toList)) (i + 1) from ⟨fun x => by have := HCO.out.1 x; push_cast; omega, HCO.out.2⟩)
        clear hm
        go_wp2_with (fail)
        go_roundw
        case rel => exact ⟨i + 1, n, cnt, L, by go_num, by omega, HOW.out, HOB.out, HMP.out, by omega, HC2.out, HS2.out, by omega, BEL.out⟩
        case measure => simp [intOf]; omega
      · have hmd : (i : Int) % 2 = 1 := by omega
        have hmx : p.size ≤ maxLen := by unfold maxLen; omega
        have hl1 := HMP.out.look p hmx
        have hcb := HCO.out.1 p.data.toList
        have h1 := HCO.out.one p.data.toList
        have HST := Lib.hid (HCO.out.step p.data.toList)
        have HS2 := Lib.hid (show nmF 0 ((ps.map (·.data.toList)).take (i + 1)) [] = nmStep (L.map (·.data.toList)) p.data.toList by rw [HSN.out, if_pos hm])
        obtain ⟨w3, hput, hM3, hG3⟩ := HMP.out.put (by unfold maxLen; omega) p hmx (cnt p.data.toList + 1) (wf64 (by omega) (by omega))
        have hl2 := hM3.look p hmx
        rw [if_pos rfl] at hl2
        have B3 := Lib.hid (below_grown' BEL.out hG3 (fun k e => by cases e; exact Nat.le_refl _) (by have := BEL.out.size; omega))
        have own3 := row_kept HOW.out hG3 (.inl HOB.out)
        have HO3 := Lib.hid own3
        have HM3 := Lib.hid hM3
        have H1 := Lib.hid h1
        generalize cnt p.data.toList = c at *
        clear hm hmx hM3 hG3 h1
        by_cases hc1 : c + 1 = 1
        · have hd : (c + 1 == 1) = true := by simp [hc1]
          have HNS := Lib.hid (show nmStep (L.map (·.data.toList)) p.data.toList = (L ++ [p]).map (·.data.toList) by unfold nmStep; rw [if_neg (H1.out.1 hc1), List.map_append]; rfl)
          have hva := own3.alloc (.cells #[.string p] 9)
          have hnw := Lib.hid (World.news_of_block (cs := #[.string p]) (t := 9) (fr := (0, 0)) (heap_alloc_new w3 (.cells #[.string p] 9)))
          have hsz4 : bm ≤ (w3.alloc (.cells #[.string p] 9)).heap.size := by have h1 := B3.out.size; simp; omega
          have HBM := Lib.hid (show bm < (w3.alloc (.cells #[.string p] 9)).heap.size by have := HM3.out.lt; simp; omega)
          have HLL := Lib.hid hLl
          clear hc1 own3 hLl
          go_wp2_with (at_builtin; refine wpList_append_own_at _ rfl _ _ 40 rfl bm 9 ii (.string ByteArray.empty) 1 16 Tryd.underlying40 hi0 hz0 hz1 hz2 rfl (by decide) u6 L.length (cellsS L) rfl hva ⟨w3.heap.size, 0, none⟩ 1 1 [.string p] rfl rfl hnw.out (by simp [Value.oneCell']) (by have := HLL.out; simp only [maxLen]; omega) (by have := HLL.out; omega) hsz4 ?_; intro v4 w4 own4 gr4 nil4 at4)
          have hn4 : v4.ownBlock ≠ some bm := by
            rcases at4 with e | e
            · rw [e]; exact HOB.out
            · rw [e]; intro h; have := HBM.out; cases h; omega
          have hM4 := (HM3.out.alloc (.cells #[.string p] 9)).kept gr4 (Ne.symm HOB.out)
          have B4 := Lib.hid (below_grown' (B3.out.alloc (by have := B3.out.size; omega) (.cells #[.string p] 9)) gr4 (fun k e => (HO3.out.lt k e).1) hsz4)
          rw [← cellsS_snoc, show L.length + 1 = (L ++ [p]).length by simp] at own4
          have HO4 := Lib.hid own4
          have HM4 := Lib.hid hM4
          have HN4 := Lib.hid hn4
          clear own4 gr4 nil4 at4 hM4 hn4 hva hl1 hput hl2 hd c0 z0 hsz4
          go_wp2
          go_roundw
          case rel => exact ⟨i + 1, n + 1, _, L ++ [p], by go_num, by omega, HO4.out, HN4.out, HM4.out, by omega, by rw [← HNS.out]; exact HST.out, by rw [← HNS.out, HS2.out], by have := HLL.out; simp; omega, B4.out⟩
          case measure => simp [intOf]; omega
        · have hd : (c + 1 == 1) = false := by simp; omega
          have HNS := Lib.hid (show nmStep (L.map (·.data.toList)) p.data.toList = L.map (·.data.toList) by unfold nmStep; rw [if_pos]; exact Classical.byContradiction fun h => hc1 (H1.out.2 h))
          clear hc1 own3
          go_wp2_with (fail)
          go_roundw
          case rel => exact ⟨i + 1, n + 1, _, L, by go_num, by omega, HO3.out, HOB.out, HM3.out, by omega, by have h := HST.out; rw [HNS.out] at h; exact h, by rw [HS2.out, HNS.out], by omega, B3.out⟩
          case measure => simp [intOf]; omega
    · obtain rfl : i = ps.length := by omega
      have hfin := HNM.out
      rw [List.take_of_length_le (by simp), HPS.out, ← HNP.out] at hfin
      have HF := Lib.hid hfin
      have B5 := Lib.hid (B1.out.trans (BEL.out.mono hsz1.out))
      clear hfin
      go_wp2_with (fail)
      go_ret2
      refine ⟨⟨_, L, by rw [HE.out]; rfl, by unfold namesO; rw [HE.out, if_pos rfl]; exact HF.out, by omega, ?_⟩, by first | exact B5.out | exact hgp ▸ B5.out⟩
      obtain ⟨h1, h2⟩ := HOW.out
      refine ⟨h1, h2.imp id ?_⟩
      rintro ⟨g, cap, cur, e, hB, r⟩
      exact ⟨g, cap, cur, e, by have := hsz1.out; omega, r⟩
end Go.Proofs.YtacajmknlknjkaaDoor
