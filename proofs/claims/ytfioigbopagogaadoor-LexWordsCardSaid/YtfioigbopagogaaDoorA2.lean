/- lex.Lines, walked. -/
import Derived.Test.YtfioigbopagogaaDoorA1
import Derived.Maps.AppendAt
import Derived.Deep.AppendLies
namespace Go.Proofs.YtfioigbopagogaaDoor
open Go.RowKit
set_option linter.unusedVariables false
/-- A line: its number, what it says. -/
structure Ln where
  a : Nat
  t : ByteArray
def ln0 : Ln := ⟨0, ByteArray.empty⟩
def cellsN1 (e : Ln) : List Value := [.int .i64 e.a, .string e.t]
def cellsN (L : List Ln) : List Value := L.flatMap cellsN1
theorem cellsN_len : ∀ L : List Ln, (cellsN L).length = L.length * 2
  | [] => rfl
  | x :: r => by
    have h : cellsN (x :: r) = cellsN1 x ++ cellsN r := rfl
    rw [h, List.length_append, cellsN_len r, List.length_cons, show (cellsN1 x).length = 2 from rfl]; omega
theorem cellsN_snoc (L : List Ln) (e : Ln) : cellsN (L ++ [e]) = cellsN L ++ cellsN1 e := by unfold cellsN; simp
theorem cellsN_at : ∀ (L : List Ln) (i : Nat), i < L.length → (cellsN L)[i * 2]? = some (.int .i64 (L.getD i ln0).a) ∧ (cellsN L)[i * 2 + 1]? = some (.string (L.getD i ln0).t)
  | [], i, h => by simp at h
  | x :: r, 0, h => ⟨rfl, rfl⟩
  | x :: r, i + 1, h => by
    have ih := cellsN_at r i (by simpa using h)
    have hc : cellsN (x :: r) = cellsN1 x ++ cellsN r := rfl
    have e5 : (cellsN1 x).length = 2 := rfl
    have g : ∀ k, (cellsN (x :: r))[(i + 1) * 2 + k]? = (cellsN r)[i * 2 + k]? := fun k => by
      rw [hc, List.getElem?_append_right (by rw [e5]; omega), e5, show (i + 1) * 2 + k - 2 = i * 2 + k by omega]
    have e : (x :: r).getD (i + 1) ln0 = r.getD i ln0 := rfl
    have g0 := g 0
    rw [Nat.add_zero, Nat.add_zero] at g0
    rw [e, g0, g 1]
    exact ih
def LnAt (w : World) (g p : Nat) (e : Ln) : Prop := w.cell? ⟨g, p, none⟩ = some (.int .i64 e.a) ∧ w.cell? ⟨g, p + 1, none⟩ = some (.string e.t)
/-- A slice of lines, to be read. -/
def RdL (w : World) (v : Value) (m : Nat) (L : List Ln) : Prop :=
  (v = .slice none 0 0 ∧ L = []) ∨ ∃ g cap, v = .slice (some ⟨g, 0, none⟩) L.length cap ∧ L.length ≤ cap ∧ g < m ∧ ∀ i, i < L.length → LnAt w g (i * 2) (L.getD i ln0)
theorem LnAt.below {w w1 : World} {g p B : Nat} {e : Ln} (h : LnAt w g p e) (hb : Below B w w1) (hg : g < B) : LnAt w1 g p e :=
  ⟨(hb.cell (p := ⟨g, p, none⟩) hg).trans h.1, (hb.cell (p := ⟨g, p + 1, none⟩) hg).trans h.2⟩
theorem RdL.below {w w1 : World} {v : Value} {n B : Nat} {L : List Ln} (h : RdL w v n L) (hb : Below B w w1) (hn : n ≤ B) : RdL w1 v n L := by
  rcases h with h | ⟨g, cap, e, h1, hg, hc⟩
  · exact .inl h
  · exact .inr ⟨g, cap, e, h1, hg, fun i hi => (hc i hi).below hb (by omega)⟩
theorem RdL.wider {w : World} {v : Value} {n m : Nat} {L : List Ln} (h : RdL w v n L) (hn : n ≤ m) : RdL w v m L := by
  rcases h with h | ⟨g, cap, e, h1, hg, hc⟩
  · exact .inl h
  · exact .inr ⟨g, cap, e, h1, by omega, hc⟩
theorem RdL.form {w : World} {v : Value} {n : Nat} {L : List Ln} (h : RdL w v n L) : ∃ A cap, v = .slice A L.length cap := by
  rcases h with ⟨rfl, rfl⟩ | ⟨g, cap, e, h1, hg, hc⟩
  · exact ⟨_, _, rfl⟩
  · exact ⟨_, _, e⟩
theorem RdL.of_owns {w : World} {B n m : Nat} {t : TypeId} {v : Value} {L : List Ln} (h : w.ownsRow B t 2 v n (cellsN L)) (hl : L.length = n) (hm : w.heap.size ≤ m) : RdL w v m L := by
  subst hl
  rcases h.2 with ⟨e, c⟩ | ⟨g, cap, cur, e, hB, hb, h1, h2, h3, h4⟩
  · exact .inl ⟨e, List.length_eq_zero_iff.1 c⟩
  · have hb' : Blk w g t cur := hb
    refine .inr ⟨g, cap, e, h1, by have := hb'.lt; omega, fun i hi => ?_⟩
    have key : ∀ k x, k < L.length * 2 → (cellsN L)[k]? = some x → w.cell? ⟨g, k, none⟩ = some x := fun k x hk hx => by
      rw [← h4, List.getElem?_take_of_lt hk, Array.getElem?_toList] at hx
      rw [hb'.cell, hx]
    obtain ⟨a, b⟩ := cellsN_at L i hi
    exact ⟨key _ _ (by omega) a, key _ _ (by omega) b⟩
theorem owns_mono2 {w : World} {B C n : Nat} {t : TypeId} {v : Value} {xs : List Value} (h : w.ownsRow B t 2 v n xs) (k : C ≤ B) : w.ownsRow C t 2 v n xs := by
  refine ⟨h.1, h.2.imp id ?_⟩
  rintro ⟨g, cap, cur, e, hB, r⟩
  exact ⟨g, cap, cur, e, Nat.le_trans k hB, r⟩
theorem info30 : (Tryd.prog.info? 30).map (fun i => (i.zero, i.size, i.bytes)) = some (some (.agg #[.int .i64 0, .string ByteArray.empty]), 2, 24) := by kernel_rfl
/-- The bytes of some pieces. -/
def totP (l : List (List UInt8)) : Nat := (l.map List.length).sum
theorem totP_cons (p : List UInt8) (r : List (List UInt8)) : totP (p :: r) = p.length + totP r := by simp [totP]
theorem totP_pcs (d : UInt8) : ∀ l : List UInt8, totP (pcs d l) ≤ l.length
  | [] => by simp [pcs, totP]
  | c :: l => by
    have ih := totP_pcs d l
    by_cases hc : c = d
    · subst hc; rw [pcs_eq, totP_cons]; simp; omega
    · obtain ⟨p, r, h⟩ := pcs_cons d l
      rw [pcs_ne hc h, totP_cons]; rw [h, totP_cons] at ih; simp; omega
theorem strip_len (p : List UInt8) : (stripF p).length ≤ p.length := by
  unfold stripF Lib.trimSuffix; split
  · simp
  · exact Nat.le_refl _
def outF (L : List Ln) : List (Nat × List UInt8) := L.map fun x => (x.a, x.t.data.toList)
theorem owns_below {w1 w2 : World} {n B sz : Nat} {t : TypeId} {v : Value} {xs : List Value} (h : w1.ownsRow B t sz v n xs) (hb : Below w1.heap.size w1 w2) : w2.ownsRow B t sz v n xs := by
  refine ⟨h.1, h.2.imp id ?_⟩
  rintro ⟨g, cap, cur, e, hB, hg, r⟩
  exact ⟨g, cap, cur, e, hB, (hb.block g (Array.getElem?_eq_some_iff.1 hg).1).trans hg, r⟩
def LinesSaid (s : ByteArray) (w : World) (y : Ending) (w' : World) : Prop :=
  (∃ (v : Value) (L : List Ln), y = .returned (.tuple #[v, .int .i64 (linesF s.data.toList).at_, errE (linesF s.data.toList).e]) ∧ outF L = (linesF s.data.toList).l ∧ L.length ≤ 65537 ∧ w'.ownsRow w.heap.size 30 2 v L.length (cellsN L)) ∧ Below w.heap.size w w'
theorem drop_getP (ps : List ByteArray) (i : Nat) (h : i < ps.length) : (ps.map (·.data.toList)).drop i = (ps.getD i ByteArray.empty).data.toList :: (ps.map (·.data.toList)).drop (i + 1) := by
  rw [List.drop_eq_getElem_cons (by simpa using h), List.getD_eq_getElem?_getD, List.getElem?_eq_getElem h]; simp
set_option maxRecDepth 100000 in
set_option maxHeartbeats 8000000 in
theorem lines_walk (s : ByteArray) (w : World) (hm : MaxL w) (hs : s.size ≤ 9223372036854775807) : Calls Tryd.prog 9 #[.string s] w (LinesSaid s w) := by
  have hsl := sz_len s
  by_cases h1 : 65536 < s.size
  · have h1' : (65536 : Int) < (s.size : Int) := by omega
    have HL := Lib.hid (show linesF s.data.toList = ⟨[], 0, 2⟩ by unfold linesF; rw [if_pos (by omega)])
    clear hm hsl
    go_enter Tryd.func9, Tryd.ntmps9
    go_wp2_with (fail)
    go_ret3
    exact ⟨⟨_, [], by rw [HL.out]; rfl, by rw [HL.out]; rfl, Nat.zero_le _, World.ownsRow_nil _ _ _ _⟩, Below.refl _ _⟩
  have h1' : ¬ (65536 : Int) < (s.size : Int) := by omega
  have SP := Lib.hid (split_nl s w hm (by omega))
  have HM := Lib.hid hm
  have HLF := Lib.hid (show linesF s.data.toList = linesS 1 none (pcs 10 s.data.toList) [] by unfold linesF; rw [if_neg (by omega)])
  have hpl := pcs_len 10 s.data.toList
  have hcl := List.count_le_length (a := (10 : UInt8)) (l := s.data.toList)
  have HTP := Lib.hid (show totP (pcs 10 s.data.toList) ≤ 65536 by have := totP_pcs 10 s.data.toList; omega)
  have HSZ := Lib.hid (show (pcs 10 s.data.toList).length ≤ 65537 by omega)
  obtain ⟨ii, hi0, hz0, hz1, hz2⟩ := info_parts info30
  clear hm hsl h1 hpl hcl
  go_enter Tryd.func9, Tryd.ntmps9
  go_wp2_with (fail)
  refine SP.out.mono ?_
  rintro y w1 ⟨ps, hps, rfl, rfl⟩
  have hN : ps.length ≤ 65537 := by have := HSZ.out; rw [← hps, List.length_map] at this; exact this
  have B1 := Lib.hid (below_al (Below.refl w.heap.size w) (.cells (ps.map Value.string).toArray 9))
  have hPB : Blk (w.alloc (.cells (ps.map Value.string).toArray 9)) w.heap.size 9 (ps.map Value.string).toArray := Blk.new w 9 _
  have HPB := Lib.hid hPB
  have hsz1 := Lib.hid (show w.heap.size ≤ (w.alloc (.cells (ps.map Value.string).toArray 9)).heap.size by simp)
  have HM1 := Lib.hid (HM.out.below B1.out)
  have htp := HTP.out
  have hlf := HLF.out
  rw [← hps] at htp hlf
  have HT := Lib.hid htp
  have HL := Lib.hid hlf
  clear SP HSZ hPB HM HTP HLF htp hlf
  generalize w.alloc (Obj.cells (ps.map Value.string).toArray 9) = w1 at *
  generalize hgp : w.heap.size = gp at *
  have HGP := Lib.hid hgp
  clear hps hgp
  go_upto_region 6 with (fail)
  go_loopw [5, 7, 8, 9, 10, 11, 63, 66] (fun uv iv _ _ _ _ _ _ wr => ∃ (i : Nat) (L : List Ln), iv = .int .i64 i ∧ i ≤ ps.length ∧ linesS 1 none (ps.map (·.data.toList)) [] = linesS (i + 1) none ((ps.map (·.data.toList)).drop i) (outF L) ∧ totP ((ps.map (·.data.toList)).drop i) ≤ 65536 ∧ wr.ownsRow w1.heap.size 30 2 uv L.length (cellsN L) ∧ L.length ≤ i ∧ Below w1.heap.size w1 wr) (fun _ iv _ _ _ _ _ _ _ => ps.length - (intOf iv).toNat)
  case atStart => exact ⟨0, [], rfl, Nat.zero_le _, rfl, HT.out, World.ownsRow_nil _ _ _ _, Nat.le_refl _, Below.refl _ _⟩
  case round =>
    obtain ⟨i, L, rfl, hi, hlin, htot, own, hLl, bel⟩ := hrel
    obtain ⟨W0, rfl⟩ : ∃ Z, Z = wr := ⟨_, rfl⟩
    have i0 : (0 : Int) ≤ i := by omega
    have HOW := Lib.hid own
    have BEL := Lib.hid bel
    have HLIN := Lib.hid hlin
    have HTOT := Lib.hid htot
    clear own bel hlin htot
    by_cases hlt : i < ps.length
    · have hlt' : (i : Int) < (ps.length : Int) := by omega
      have hcell : ∀ j, j < ps.length → w1.cell? ⟨gp, j, none⟩ = some (.string (ps.getD j ByteArray.empty)) := fun j hj => by
        rw [HPB.out.cell]; simp [List.getD_eq_getElem?_getD, hj]
      have HCE := Lib.hid hcell
      have c0 := bel_cell BEL.out (hcell i hlt)
      have z0 := World.block_lt_of_cell? _ _ c0
      have hdp := drop_getP ps i hlt
      have hlin := HLIN.out
      have htot := HTOT.out
      rw [hdp, linesS_none] at hlin
      rw [hdp, totP_cons] at htot
      clear hcell hdp
      generalize ps.getD i ByteArray.empty = p at *
      have hps2 : p.size ≤ 65536 := by rw [← sz_len]; omega
      have CS := Lib.hid (cutsuf p W0 (by omega))
      have hstl := strip_len p.data.toList
      have HLN := Lib.hid hlin
      have HTO := Lib.hid (show (stripF p.data.toList).length + totP ((ps.map (·.data.toList)).drop (i + 1)) ≤ 65536 by omega)
      clear hlin htot hstl
      go_wp2_with (fail)
      refine CS.out.mono ?_
      rintro y w2 ⟨rfl, rfl⟩
      clear CS c0 z0
      go_upto_region 10 with (fail)
      go_loopw [7, 9, 10, 11] (fun iv tv mv _ wr => ∃ (i2 : Nat) (tb : ByteArray) (more : Bool), iv = .int .i64 i2 ∧ tv = .string tb ∧ mv = .bool more ∧ i ≤ i2 ∧ i2 < ps.length ∧ linesS 1 none (ps.map (·.data.toList)) [] = contF more (i2 + 2) (i + 1) tb.data.toList ((ps.map (·.data.toList)).drop (i2 + 1)) (outF L) ∧ tb.data.toList.length + totP ((ps.map (·.data.toList)).drop (i2 + 1)) ≤ 65536 ∧ wr = w2) (fun iv _ _ _ _ => ps.length - (intOf iv).toNat)
      case atStart => exact ⟨i, ⟨(stripF p.data.toList).toArray⟩, endsF p.data.toList, rfl, rfl, rfl, Nat.le_refl _, hlt, HLN.out, HTO.out, rfl⟩
      case round =>
        clear HLN HTO
        obtain ⟨i2, tb, more, rfl, rfl, rfl, hii, hi2, hlin, htot, rfl⟩ := hrel
        have j0 : (0 : Int) ≤ i2 := by omega
        have HLN := Lib.hid hlin
        have HTO := Lib.hid htot
        have htbs : tb.size ≤ 65536 := by rw [← sz_len]; omega
        clear hlin htot
        by_cases hgo : more = true ∧ i2 + 1 < ps.length
        · obtain ⟨rfl, hn⟩ := hgo
          have hn' : (i2 : Int) + 1 < (ps.length : Int) := by omega
          have c0 := bel_cell BEL.out (HCE.out (i2 + 1) hn)
          have z0 := World.block_lt_of_cell? _ _ c0
          have hdp := drop_getP ps (i2 + 1) hn
          have hlin := HLN.out
          have htot := HTO.out
          rw [hdp] at hlin htot
          rw [totP_cons] at htot
          unfold contF at hlin
          rw [if_pos (by simp), linesS_some] at hlin
          generalize ps.getD (i2 + 1) ByteArray.empty = q at *
          have hqs : q.size ≤ 65536 := by rw [← sz_len]; omega
          have CS := Lib.hid (cutsuf q wr (by omega))
          have hstl := strip_len q.data.toList
          have hsz2 : (⟨(stripF q.data.toList).toArray⟩ : ByteArray).size ≤ 65536 := by rw [← sz_len]; simp; omega
          obtain ⟨nx, hnx⟩ : ∃ nx : ByteArray, (⟨(stripF q.data.toList).toArray⟩ : ByteArray) = nx := ⟨_, rfl⟩
          have HNX := Lib.hid (show nx.data.toList = stripF q.data.toList by rw [← hnx])
          rw [hnx] at hsz2
          obtain ⟨tn, htn⟩ : ∃ tn, tb ++ nx = tn := ⟨_, rfl⟩
          have HTN := Lib.hid (show tn.data.toList = tb.data.toList ++ stripF q.data.toList by rw [← htn, app_data, HNX.out])
          have HL2 := Lib.hid hlin
          have HT2 := Lib.hid (show tn.data.toList.length + totP ((ps.map (·.data.toList)).drop (i2 + 1 + 1)) ≤ 65536 by rw [HTN.out, List.length_append]; omega)
          clear hlin htot hdp hstl HLN HTO
          go_wp2_with (fail)
          refine CS.out.mono ?_
          rintro y w3 ⟨rfl, rfl⟩
          clear CS c0 z0
          rw [hnx]
          go_wp2_with (fail)
          go_roundw
          case rel => exact ⟨i2 + 1, tn, endsF q.data.toList, by go_num, rfl, rfl, by omega, hn, by rw [HTN.out]; exact HL2.out, HT2.out, by first | rfl | trivial⟩
          case measure => simp [intOf]; omega
        · have hstop : (more && !((ps.map (·.data.toList)).drop (i2 + 1)).isEmpty) = false := by
            cases more with
            | false => rfl
            | true =>
              have : ¬ i2 + 1 < ps.length := fun h => hgo ⟨rfl, h⟩
              rw [List.drop_of_length_le (by simp; omega)]; rfl
          have hlin := HLN.out
          unfold contF at hlin
          rw [hstop, if_neg (by simp)] at hlin
          have HL2 := Lib.hid hlin
          have HTD := Lib.hid (show totP ((ps.map (·.data.toList)).drop (i2 + 1)) ≤ 65536 by have := HTO.out; omega)
          have SW := Lib.hid (said_walk tb wr (HM1.out.below BEL.out) (by omega))
          have hsl2 := said_len tb.data.toList
          obtain ⟨tx, htx⟩ : ∃ tx : ByteArray, (⟨(saidF tb.data.toList).toArray⟩ : ByteArray) = tx := ⟨_, rfl⟩
          have htxd : tx.data.toList = saidF tb.data.toList := by rw [← htx]
          have HTX := Lib.hid htxd
          have htxs : tx.size ≤ 65536 := by rw [← sz_len, htxd]; have := sz_len tb; omega
          have HTXS := Lib.hid (show (saidF tb.data.toList).length = tx.size by rw [← htxd, sz_len])
          have HEM := Lib.hid htx
          clear hlin hstop HLN HTO hsl2 htxd htx
          have key : ∀ (h : Prop), h → h := fun _ h => h
          clear key
          cases more with
          | false =>
            skip
            go_wp2_with (fail)
            refine SW.out.mono ?_
            rintro y w4 ⟨rfl, B4⟩
            rw [HEM.out]
            have BEL4 := Lib.hid (BEL.out.trans (B4.mono BEL.out.size))
            have HOW4 := Lib.hid (owns_below HOW.out B4)
            clear SW B4
            by_cases hem : tx.data.toList = []
            · have hem2 : tx.toList.isEmpty = true := by rw [ByteArray.toList_eq]; simpa using hem
              have HLX := Lib.hid (HL2.out.trans (by rw [if_pos (by rw [← HTX.out]; exact hem)]))
              clear hem
              go_wp2_with (fail)
              go_roundw
              case rel => exact ⟨i2 + 1, L, by go_num, by omega, HLX.out, HTD.out, HOW4.out, by omega, BEL4.out⟩
              case measure => simp [intOf]; omega
            · have hem2 : tx.toList.isEmpty = false := by rw [ByteArray.toList_eq]; simpa using hem
              have hne : saidF tb.data.toList ≠ [] := by rw [← HTX.out]; exact hem
              clear hem
              by_cases hlg : 4096 < tx.size
              · have hlg' : (4096 : Int) < (tx.size : Int) := by omega
                have HLX := Lib.hid (HL.out.trans (HL2.out.trans (by rw [if_neg hne, if_pos (by rw [HTXS.out]; exact hlg)])))
                have B5 := Lib.hid (B1.out.trans (BEL4.out.mono hsz1.out))
                clear hne hlg
                go_wp2_with (fail)
                go_ret3
                exact ⟨⟨_, [], by rw [HLX.out]; rfl, by rw [HLX.out]; rfl, Nat.zero_le _, World.ownsRow_nil _ _ _ _⟩, by first | exact B5.out | exact HGP.out ▸ B5.out⟩
              · have hlg' : ¬ (4096 : Int) < (tx.size : Int) := by omega
                have HLX := Lib.hid (HL2.out.trans (by rw [if_neg hne, if_neg (by rw [HTXS.out]; exact hlg)]))
                clear hne hlg
                have hva := HOW4.out.alloc (.cells #[.int .i64 ((i : Int) + 1), .string tx] 30)
                have hnw := Lib.hid (World.news_of_block (cs := #[.int .i64 ((i : Int) + 1), .string tx]) (t := 30) (fr := (0, 0)) (heap_alloc_new w4 (.cells #[.int .i64 ((i : Int) + 1), .string tx] 30)))
                have hsz4 : w1.heap.size ≤ (w4.alloc (.cells #[.int .i64 ((i : Int) + 1), .string tx] 30)).heap.size := by have := BEL4.out.size; simp; omega
                go_wp2_with (at_builtin; refine wpList_append_own_at _ rfl _ _ 24 rfl w1.heap.size 30 ii (.agg #[.int .i64 0, .string ByteArray.empty]) 2 24 Tryd.underlying24 hi0 hz0 hz1 hz2 rfl (by decide) _ L.length (cellsN L) rfl hva ⟨w4.heap.size, 0, none⟩ 1 1 [.int .i64 ((i : Int) + 1), .string tx] rfl rfl hnw.out (by simp [Value.oneCell']) (by simp only [maxLen]; omega) (by omega) hsz4 ?_; intro v5 w5 own5 gr5 nil5 at5)
                have B5 := Lib.hid (below_grown' (BEL4.out.alloc BEL4.out.size _) gr5 (fun k e => (HOW4.out.lt k e).1) hsz4)
                have e5 : cellsN L ++ [.int .i64 ((i : Int) + 1), .string tx] = cellsN (L ++ [(⟨i + 1, tx⟩ : Ln)]) := by rw [cellsN_snoc]; rfl
                rw [e5, show L.length + 1 = (L ++ [(⟨i + 1, tx⟩ : Ln)]).length by simp] at own5
                have HO5 := Lib.hid own5
                have HOF := Lib.hid (show outF (L ++ [(⟨i + 1, tx⟩ : Ln)]) = outF L ++ [(i + 1, saidF tb.data.toList)] by unfold outF; rw [List.map_append, ← HTX.out]; rfl)
                clear own5 gr5 nil5 at5 hva hsz4 e5
                go_wp2
                go_roundw
                case rel => exact ⟨i2 + 1, L ++ [⟨i + 1, tx⟩], by go_num, by omega, by rw [HOF.out]; exact HLX.out, HTD.out, HO5.out, by simp; omega, B5.out⟩
                case measure => simp [intOf]; omega
          | true =>
            have hn' : ¬ (i2 : Int) + 1 < (ps.length : Int) := by have : ¬ i2 + 1 < ps.length := fun h => hgo ⟨rfl, h⟩; omega
            go_wp2_with (fail)
            refine SW.out.mono ?_
            rintro y w4 ⟨rfl, B4⟩
            rw [HEM.out]
            have BEL4 := Lib.hid (BEL.out.trans (B4.mono BEL.out.size))
            have HOW4 := Lib.hid (owns_below HOW.out B4)
            clear SW B4
            by_cases hem : tx.data.toList = []
            · have hem2 : tx.toList.isEmpty = true := by rw [ByteArray.toList_eq]; simpa using hem
              have HLX := Lib.hid (HL2.out.trans (by rw [if_pos (by rw [← HTX.out]; exact hem)]))
              clear hem
              go_wp2_with (fail)
              go_roundw
              case rel => exact ⟨i2 + 1, L, by go_num, by omega, HLX.out, HTD.out, HOW4.out, by omega, BEL4.out⟩
              case measure => simp [intOf]; omega
            · have hem2 : tx.toList.isEmpty = false := by rw [ByteArray.toList_eq]; simpa using hem
              have hne : saidF tb.data.toList ≠ [] := by rw [← HTX.out]; exact hem
              clear hem
              by_cases hlg : 4096 < tx.size
              · have hlg' : (4096 : Int) < (tx.size : Int) := by omega
                have HLX := Lib.hid (HL.out.trans (HL2.out.trans (by rw [if_neg hne, if_pos (by rw [HTXS.out]; exact hlg)])))
                have B5 := Lib.hid (B1.out.trans (BEL4.out.mono hsz1.out))
                clear hne hlg
                go_wp2_with (fail)
                go_ret3
                exact ⟨⟨_, [], by rw [HLX.out]; rfl, by rw [HLX.out]; rfl, Nat.zero_le _, World.ownsRow_nil _ _ _ _⟩, by first | exact B5.out | exact HGP.out ▸ B5.out⟩
              · have hlg' : ¬ (4096 : Int) < (tx.size : Int) := by omega
                have HLX := Lib.hid (HL2.out.trans (by rw [if_neg hne, if_neg (by rw [HTXS.out]; exact hlg)]))
                clear hne hlg
                have hva := HOW4.out.alloc (.cells #[.int .i64 ((i : Int) + 1), .string tx] 30)
                have hnw := Lib.hid (World.news_of_block (cs := #[.int .i64 ((i : Int) + 1), .string tx]) (t := 30) (fr := (0, 0)) (heap_alloc_new w4 (.cells #[.int .i64 ((i : Int) + 1), .string tx] 30)))
                have hsz4 : w1.heap.size ≤ (w4.alloc (.cells #[.int .i64 ((i : Int) + 1), .string tx] 30)).heap.size := by have := BEL4.out.size; simp; omega
                go_wp2_with (at_builtin; refine wpList_append_own_at _ rfl _ _ 24 rfl w1.heap.size 30 ii (.agg #[.int .i64 0, .string ByteArray.empty]) 2 24 Tryd.underlying24 hi0 hz0 hz1 hz2 rfl (by decide) _ L.length (cellsN L) rfl hva ⟨w4.heap.size, 0, none⟩ 1 1 [.int .i64 ((i : Int) + 1), .string tx] rfl rfl hnw.out (by simp [Value.oneCell']) (by simp only [maxLen]; omega) (by omega) hsz4 ?_; intro v5 w5 own5 gr5 nil5 at5)
                have B5 := Lib.hid (below_grown' (BEL4.out.alloc BEL4.out.size _) gr5 (fun k e => (HOW4.out.lt k e).1) hsz4)
                have e5 : cellsN L ++ [.int .i64 ((i : Int) + 1), .string tx] = cellsN (L ++ [(⟨i + 1, tx⟩ : Ln)]) := by rw [cellsN_snoc]; rfl
                rw [e5, show L.length + 1 = (L ++ [(⟨i + 1, tx⟩ : Ln)]).length by simp] at own5
                have HO5 := Lib.hid own5
                have HOF := Lib.hid (show outF (L ++ [(⟨i + 1, tx⟩ : Ln)]) = outF L ++ [(i + 1, saidF tb.data.toList)] by unfold outF; rw [List.map_append, ← HTX.out]; rfl)
                clear own5 gr5 nil5 at5 hva hsz4 e5
                go_wp2
                go_roundw
                case rel => exact ⟨i2 + 1, L ++ [⟨i + 1, tx⟩], by go_num, by omega, by rw [HOF.out]; exact HLX.out, HTD.out, HO5.out, by simp; omega, B5.out⟩
                case measure => simp [intOf]; omega
    · obtain rfl : i = ps.length := by omega
      have hfin := HLIN.out
      rw [List.drop_of_length_le (by simp), linesS] at hfin
      have HF := Lib.hid (HL.out.trans hfin)
      have B5 := Lib.hid (B1.out.trans (BEL.out.mono hsz1.out))
      clear hfin
      go_wp2_with (fail)
      go_ret3
      refine ⟨⟨_, L, by rw [HF.out]; rfl, by rw [HF.out], by omega, ?_⟩, by first | exact B5.out | exact HGP.out ▸ B5.out⟩
      have hms := hsz1.out
      rw [← HGP.out] at hms
      exact owns_mono2 HOW.out hms
end Go.Proofs.YtfioigbopagogaaDoor
