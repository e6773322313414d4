/- The document's Choose, walked. -/
import Derived.Test.YtjffciejoahegaaDoorG2
namespace Go.Proofs.YtjffciejoahegaaDoor
open Go.RowKit
set_option linter.unusedVariables false
set_option maxRecDepth 100000 in
set_option maxHeartbeats 8000000 in
theorem refchoose_walk (u v : Value) (own : List Int) (ren of n : Int) (L : List Es) (hl : L.length ≤ 65536) (ho : own.length ≤ 65536) (ht : totF L ≤ 65536) (w : World) (hu : RdI w u w.heap.size own) (h : RdX w v w.heap.size L) (hc : ∀ e ∈ L, RdI w (.slice e.a e.c.length e.cap) w.heap.size e.c) :
    Calls Tryd.prog 18 #[u, .int .i64 ren, v, .int .i64 of, .int .i64 n] w (ChSaid own ren L of n w) := by
  obtain ⟨ii, hi0, hz0, hz1, hz2⟩ := info_parts info3
  obtain ⟨A, cap, rfl⟩ := h.form
  have HI := Lib.hid h
  have HCC := Lib.hid hc
  have HU := Lib.hid hu
  have HO := Lib.hid ho
  have HT0 := Lib.hid ht
  clear h hc hu ho ht
  go_enter Tryd.func18, Tryd.ntmps18
  go_upto_region 4 with (fail)
  go_loopw [12, 13, 14, 15] (fun cv sv mv iv wr => ∃ (i : Nat) (t : St), iv = .int .i64 i ∧ i ≤ L.length ∧ allF of n (L.take i) = t ∧ mv = .int .i64 t.m ∧ sv = .bool t.s ∧ wr.ownsRow w.heap.size 3 1 cv t.c.length (cellsI t.c) ∧ Below w.heap.size w wr) (fun _ _ _ iv _ => L.length - (intOf iv).toNat)
  case atStart => exact ⟨0, ⟨false, 0, []⟩, rfl, Nat.zero_le _, rfl, rfl, rfl, World.ownsRow_nil _ _ _ _, Below.refl _ _⟩
  case round =>
    obtain ⟨i, ⟨ts, tm, tc⟩, rfl, hi, hT, rfl, rfl, own', bel⟩ := hrel
    dsimp only at own' ⊢
    have i0 : (0 : Int) ≤ i := by omega
    by_cases hlt : i < L.length
    · have hlt' : (i : Int) < (L.length : Int) := by omega
      rcases HI.out with ⟨_, _, _, _, hl0⟩ | ⟨g, o, cp, e, hg, hh⟩
      · rw [hl0] at hlt; simp at hlt
      cases e
      have HS := Lib.hid (show allF of n (L.take (i + 1)) = stepF of n ⟨ts, tm, tc⟩ (L.getD i es0) by rw [takeX_succ hlt, allF_snoc, hT])
      have HTL := Lib.hid (show tc.length + (L.getD i es0).c.length ≤ 65536 by have h1 := allF_len of n (L.take i); rw [hT] at h1; have h2 := totF_at L hlt; simp only at h1; have := HT0.out; omega)
      have HRE := Lib.hid (HCC.out (L.getD i es0) (by rw [List.getD_eq_getElem?_getD, List.getElem?_eq_getElem hlt]; exact List.getElem_mem _))
      obtain ⟨c0, c1, c2, c3, c4⟩ := (hh i hlt).below bel hg
      have z0 := World.block_lt_of_cell? _ _ c0
      generalize L.getD i es0 = E at *
      obtain ⟨eo, ef, el, ea, ec, ecap, er⟩ := E
      dsimp only at c0 c1 c2 c3 c4 HTL HRE
      have HOW := Lib.hid own'
      have BEL := Lib.hid bel
      clear hh own' bel hT
      go_upto_region 7 with (fail)
      have hB := Blk.new wr 46 #[.int .i64 eo, .int .i64 ef, .int .i64 el, .slice ea ec.length ecap, .int .i64 er]
      have OW0 := HOW
      have OW1 := Lib.hid (HOW.out.alloc (.cells #[.int .i64 eo, .int .i64 ef, .int .i64 el, .slice ea ec.length ecap, .int .i64 er] 46))
      have BW1 := Lib.hid (BEL.out.alloc BEL.out.size (.cells #[.int .i64 eo, .int .i64 ef, .int .i64 el, .slice ea ec.length ecap, .int .i64 er] 46))
      have HGB := Lib.hid (Eq.refl wr.heap.size)
      clear c0 c1 c2 c3 c4 z0 BEL
      generalize hgB : wr.heap.size = gB at hB HGB ⊢
      generalize wr.alloc (Obj.cells #[Value.int IntKind.i64 eo, Value.int IntKind.i64 ef, Value.int IntKind.i64 el, Value.slice ea ec.length ecap, Value.int IntKind.i64 er] 46) = W1 at *
      have RE := Lib.hid (HRE.out.below BW1.out (Nat.le_refl _))
      have b0 : W1.cell? ⟨gB, 0, none⟩ = some (.int .i64 eo) := by rw [hB.cell]; rfl
      have b1 : W1.cell? ⟨gB, 1, none⟩ = some (.int .i64 ef) := by rw [hB.cell]; rfl
      have b2 : W1.cell? ⟨gB, 2, none⟩ = some (.int .i64 el) := by rw [hB.cell]; rfl
      have b3 : W1.cell? ⟨gB, 3, none⟩ = some (.slice ea ec.length ecap) := by rw [hB.cell]; rfl
      have b4 : W1.cell? ⟨gB, 4, none⟩ = some (.int .i64 er) := by rw [hB.cell]; rfl
      have zB := hB.lt
      have hBx := Lib.hid hB
      have HG2 := Lib.hid hgB
      clear hB hgB
      by_cases h1 : eo = of
      · have d1 : (eo == of) = true := by simp [h1]
        have H1 := Lib.hid h1
        clear h1
        by_cases h2 : ef ≤ n
        · have d2 : decide (ef ≤ n) = true := decide_eq_true h2
          have H2 := Lib.hid h2
          clear h2
          by_cases h3 : el = 0
          · have d3 : (el == 0) = true := by simp [h3]
            have H3 := Lib.hid h3
            clear h3
            have HCT := Lib.hid (show Counts ⟨eo, ef, el, ea, ec, ecap, er⟩ of n from ⟨H1.out, H2.out, .inl H3.out⟩)
            rcases RE.out.news with ⟨e, hE⟩ | ⟨ad, cp2, e, hnews⟩
            · cases hE
              cases e
              have HVA := OW1.out
              go_upto_region 10 with (at_builtin; refine wpList_append_own_none rfl _ _ 41 rfl w.heap.size 3 ii 1 Tryd.underlying41 hi0 u12 tc.length (cellsI tc) rfl HVA rfl ?_)
              have OW2 := Lib.hid (show W1.ownsRow w.heap.size 3 1 u12 (tc ++ []).length (cellsI (tc ++ [])) by simpa using HVA)
              clear HVA
              rcases (by omega : (¬ 0 < er) ∨ (0 < er ∧ tm = 0) ∨ (0 < er ∧ ¬ tm = 0 ∧ er < tm) ∨ (0 < er ∧ ¬ tm = 0 ∧ ¬ er < tm)) with hr | hr | hr | hr
              · have d1 : decide (0 < er) = false := decide_eq_false hr
                have HR := Lib.hid (show leastF ⟨eo, ef, el, none, [], 0, er⟩ tm = tm by unfold leastF; simp only; first | (rw [if_pos (by omega)]) | (rw [if_neg (by omega)]))
                clear hr
                go_wp2_with (fail)
                go_roundw
                case rel => exact ⟨i + 1, ⟨true, tm, tc ++ []⟩, by go_num, by omega, by rw [HS.out]; unfold stepF; rw [if_pos HCT.out]; simp only [HR.out], rfl, rfl, OW2.out, BW1.out⟩
                case measure => simp [intOf]; omega
              · have d1 : decide (0 < er) = true := decide_eq_true hr.1
                have d2 : (tm == 0) = true := by simp [hr.2]
                have HR := Lib.hid (show leastF ⟨eo, ef, el, none, [], 0, er⟩ tm = er by unfold leastF; simp only; first | (rw [if_pos (by omega)]) | (rw [if_neg (by omega)]))
                clear hr
                go_wp2_with (fail)
                go_roundw
                case rel => exact ⟨i + 1, ⟨true, er, tc ++ []⟩, by go_num, by omega, by rw [HS.out]; unfold stepF; rw [if_pos HCT.out]; simp only [HR.out], rfl, rfl, OW2.out, BW1.out⟩
                case measure => simp [intOf]; omega
              · have d1 : decide (0 < er) = true := decide_eq_true hr.1
                have d2 : (tm == 0) = false := by simp [hr.2.1]
                have d3 : decide (er < tm) = true := decide_eq_true hr.2.2
                have HR := Lib.hid (show leastF ⟨eo, ef, el, none, [], 0, er⟩ tm = er by unfold leastF; simp only; first | (rw [if_pos (by omega)]) | (rw [if_neg (by omega)]))
                clear hr
                go_wp2_with (fail)
                go_roundw
                case rel => exact ⟨i + 1, ⟨true, er, tc ++ []⟩, by go_num, by omega, by rw [HS.out]; unfold stepF; rw [if_pos HCT.out]; simp only [HR.out], rfl, rfl, OW2.out, BW1.out⟩
                case measure => simp [intOf]; omega
              · have d1 : decide (0 < er) = true := decide_eq_true hr.1
                have d2 : (tm == 0) = false := by simp [hr.2.1]
                have d3 : decide (er < tm) = false := decide_eq_false hr.2.2
                have HR := Lib.hid (show leastF ⟨eo, ef, el, none, [], 0, er⟩ tm = tm by unfold leastF; simp only; first | (rw [if_pos (by omega)]) | (rw [if_neg (by omega)]))
                clear hr
                go_wp2_with (fail)
                go_roundw
                case rel => exact ⟨i + 1, ⟨true, tm, tc ++ []⟩, by go_num, by omega, by rw [HS.out]; unfold stepF; rw [if_pos HCT.out]; simp only [HR.out], rfl, rfl, OW2.out, BW1.out⟩
                case measure => simp [intOf]; omega
            · cases e
              have HVA := OW1.out
              have hsz := BW1.out.size
              have hb0 := HTL.out
              have HNE := Lib.hid hnews
              clear hnews
              go_upto_region 10 with (at_builtin; refine wpList_append_own_at _ rfl _ _ 41 rfl w.heap.size 3 ii (.int .i64 0) 1 8 Tryd.underlying41 hi0 hz0 hz1 hz2 rfl (by decide) u12 tc.length (cellsI tc) rfl HVA ad ec.length ecap (cellsI ec) rfl (cellsI_len ec) HNE.out (cellsI_one ec) (by simp only [maxLen]; omega) (by omega) hsz ?_; intro v3 w4 own4 gr4 nil4 at4)
              have OW2 := Lib.hid (show w4.ownsRow w.heap.size 3 1 v3 (tc ++ ec).length (cellsI (tc ++ ec)) by rw [List.length_append, show cellsI (tc ++ ec) = cellsI tc ++ cellsI ec by unfold cellsI; simp]; exact own4)
              have BW2 := Lib.hid (below_grown' BW1.out gr4 (fun k e => (HVA.lt k e).1) hsz)
              have hB4 : Blk w4 gB 46 #[.int .i64 eo, .int .i64 ef, .int .i64 el, .slice (some ad) ec.length ecap, .int .i64 er] := (gr4.block gB hBx.out.lt (fun e => by have := (OW0.out.lt gB e.symm).2; have := HG2.out; omega)).trans hBx.out
              have y4 : w4.cell? ⟨gB, 4, none⟩ = some (.int .i64 er) := by rw [hB4.cell]; rfl
              have zB4 := hB4.lt
              clear b0 b1 b2 b3 b4 zB HVA own4 gr4 nil4 at4 hB4
              rcases (by omega : (¬ 0 < er) ∨ (0 < er ∧ tm = 0) ∨ (0 < er ∧ ¬ tm = 0 ∧ er < tm) ∨ (0 < er ∧ ¬ tm = 0 ∧ ¬ er < tm)) with hr | hr | hr | hr
              · have d1 : decide (0 < er) = false := decide_eq_false hr
                have HR := Lib.hid (show leastF ⟨eo, ef, el, (some ad), ec, ecap, er⟩ tm = tm by unfold leastF; simp only; first | (rw [if_pos (by omega)]) | (rw [if_neg (by omega)]))
                clear hr
                go_wp2_with (fail)
                go_roundw
                case rel => exact ⟨i + 1, ⟨true, tm, tc ++ ec⟩, by go_num, by omega, by rw [HS.out]; unfold stepF; rw [if_pos HCT.out]; simp only [HR.out], rfl, rfl, OW2.out, BW2.out⟩
                case measure => simp [intOf]; omega
              · have d1 : decide (0 < er) = true := decide_eq_true hr.1
                have d2 : (tm == 0) = true := by simp [hr.2]
                have HR := Lib.hid (show leastF ⟨eo, ef, el, (some ad), ec, ecap, er⟩ tm = er by unfold leastF; simp only; first | (rw [if_pos (by omega)]) | (rw [if_neg (by omega)]))
                clear hr
                go_wp2_with (fail)
                go_roundw
                case rel => exact ⟨i + 1, ⟨true, er, tc ++ ec⟩, by go_num, by omega, by rw [HS.out]; unfold stepF; rw [if_pos HCT.out]; simp only [HR.out], rfl, rfl, OW2.out, BW2.out⟩
                case measure => simp [intOf]; omega
              · have d1 : decide (0 < er) = true := decide_eq_true hr.1
                have d2 : (tm == 0) = false := by simp [hr.2.1]
                have d3 : decide (er < tm) = true := decide_eq_true hr.2.2
                have HR := Lib.hid (show leastF ⟨eo, ef, el, (some ad), ec, ecap, er⟩ tm = er by unfold leastF; simp only; first | (rw [if_pos (by omega)]) | (rw [if_neg (by omega)]))
                clear hr
                go_wp2_with (fail)
                go_roundw
                case rel => exact ⟨i + 1, ⟨true, er, tc ++ ec⟩, by go_num, by omega, by rw [HS.out]; unfold stepF; rw [if_pos HCT.out]; simp only [HR.out], rfl, rfl, OW2.out, BW2.out⟩
                case measure => simp [intOf]; omega
              · have d1 : decide (0 < er) = true := decide_eq_true hr.1
                have d2 : (tm == 0) = false := by simp [hr.2.1]
                have d3 : decide (er < tm) = false := decide_eq_false hr.2.2
                have HR := Lib.hid (show leastF ⟨eo, ef, el, (some ad), ec, ecap, er⟩ tm = tm by unfold leastF; simp only; first | (rw [if_pos (by omega)]) | (rw [if_neg (by omega)]))
                clear hr
                go_wp2_with (fail)
                go_roundw
                case rel => exact ⟨i + 1, ⟨true, tm, tc ++ ec⟩, by go_num, by omega, by rw [HS.out]; unfold stepF; rw [if_pos HCT.out]; simp only [HR.out], rfl, rfl, OW2.out, BW2.out⟩
                case measure => simp [intOf]; omega
          · have d3 : (el == 0) = false := by simp [h3]
            have H3 := Lib.hid h3
            clear h3
            by_cases h4 : n ≤ el
            · have d4 : decide (n ≤ el) = true := decide_eq_true h4
              have H4 := Lib.hid h4
              clear h4
              have HCT := Lib.hid (show Counts ⟨eo, ef, el, ea, ec, ecap, er⟩ of n from ⟨H1.out, H2.out, .inr H4.out⟩)
              rcases RE.out.news with ⟨e, hE⟩ | ⟨ad, cp2, e, hnews⟩
              · cases hE
                cases e
                have HVA := OW1.out
                go_upto_region 10 with (at_builtin; refine wpList_append_own_none rfl _ _ 41 rfl w.heap.size 3 ii 1 Tryd.underlying41 hi0 u12 tc.length (cellsI tc) rfl HVA rfl ?_)
                have OW2 := Lib.hid (show W1.ownsRow w.heap.size 3 1 u12 (tc ++ []).length (cellsI (tc ++ [])) by simpa using HVA)
                clear HVA
                rcases (by omega : (¬ 0 < er) ∨ (0 < er ∧ tm = 0) ∨ (0 < er ∧ ¬ tm = 0 ∧ er < tm) ∨ (0 < er ∧ ¬ tm = 0 ∧ ¬ er < tm)) with hr | hr | hr | hr
                · have d1 : decide (0 < er) = false := decide_eq_false hr
                  have HR := Lib.hid (show leastF ⟨eo, ef, el, none, [], 0, er⟩ tm = tm by unfold leastF; simp only; first | (rw [if_pos (by omega)]) | (rw [if_neg (by omega)]))
                  clear hr
                  go_wp2_with (fail)
                  go_roundw
                  case rel => exact ⟨i + 1, ⟨true, tm, tc ++ []⟩, by go_num, by omega, by rw [HS.out]; unfold stepF; rw [if_pos HCT.out]; simp only [HR.out], rfl, rfl, OW2.out, BW1.out⟩
                  case measure => simp [intOf]; omega
                · have d1 : decide (0 < er) = true := decide_eq_true hr.1
                  have d2 : (tm == 0) = true := by simp [hr.2]
                  have HR := Lib.hid (show leastF ⟨eo, ef, el, none, [], 0, er⟩ tm = er by unfold leastF; simp only; first | (rw [if_pos (by omega)]) | (rw [if_neg (by omega)]))
                  clear hr
                  go_wp2_with (fail)
                  go_roundw
                  case rel => exact ⟨i + 1, ⟨true, er, tc ++ []⟩, by go_num, by omega, by rw [HS.out]; unfold stepF; rw [if_pos HCT.out]; simp only [HR.out], rfl, rfl, OW2.out, BW1.out⟩
                  case measure => simp [intOf]; omega
                · have d1 : decide (0 < er) = true := decide_eq_true hr.1
                  have d2 : (tm == 0) = false := by simp [hr.2.1]
                  have d3 : decide (er < tm) = true := decide_eq_true hr.2.2
                  have HR := Lib.hid (show leastF ⟨eo, ef, el, none, [], 0, er⟩ tm = er by unfold leastF; simp only; first | (rw [if_pos (by omega)]) | (rw [if_neg (by omega)]))
                  clear hr
                  go_wp2_with (fail)
                  go_roundw
                  case rel => exact ⟨i + 1, ⟨true, er, tc ++ []⟩, by go_num, by omega, by rw [HS.out]; unfold stepF; rw [if_pos HCT.out]; simp only [HR.out], rfl, rfl, OW2.out, BW1.out⟩
                  case measure => simp [intOf]; omega
                · have d1 : decide (0 < er) = true := decide_eq_true hr.1
                  have d2 : (tm == 0) = false := by simp [hr.2.1]
                  have d3 : decide (er < tm) = false := decide_eq_false hr.2.2
                  have HR := Lib.hid (show leastF ⟨eo, ef, el, none, [], 0, er⟩ tm = tm by unfold leastF; simp only; first | (rw [if_pos (by omega)]) | (rw [if_neg (by omega)]))
                  clear hr
                  go_wp2_with (fail)
                  go_roundw
                  case rel => exact ⟨i + 1, ⟨true, tm, tc ++ []⟩, by go_num, by omega, by rw [HS.out]; unfold stepF; rw [if_pos HCT.out]; simp only [HR.out], rfl, rfl, OW2.out, BW1.out⟩
                  case measure => simp [intOf]; omega
              · cases e
                have HVA := OW1.out
                have hsz := BW1.out.size
                have hb0 := HTL.out
                have HNE := Lib.hid hnews
                clear hnews
                go_upto_region 10 with (at_builtin; refine wpList_append_own_at _ rfl _ _ 41 rfl w.heap.size 3 ii (.int .i64 0) 1 8 Tryd.underlying41 hi0 hz0 hz1 hz2 rfl (by decide) u12 tc.length (cellsI tc) rfl HVA ad ec.length ecap (cellsI ec) rfl (cellsI_len ec) HNE.out (cellsI_one ec) (by simp only [maxLen]; omega) (by omega) hsz ?_; intro v3 w4 own4 gr4 nil4 at4)
                have OW2 := Lib.hid (show w4.ownsRow w.heap.size 3 1 v3 (tc ++ ec).length (cellsI (tc ++ ec)) by rw [List.length_append, show cellsI (tc ++ ec) = cellsI tc ++ cellsI ec by unfold cellsI; simp]; exact own4)
                have BW2 := Lib.hid (below_grown' BW1.out gr4 (fun k e => (HVA.lt k e).1) hsz)
                have hB4 : Blk w4 gB 46 #[.int .i64 eo, .int .i64 ef, .int .i64 el, .slice (some ad) ec.length ecap, .int .i64 er] := (gr4.block gB hBx.out.lt (fun e => by have := (OW0.out.lt gB e.symm).2; have := HG2.out; omega)).trans hBx.out
                have y4 : w4.cell? ⟨gB, 4, none⟩ = some (.int .i64 er) := by rw [hB4.cell]; rfl
                have zB4 := hB4.lt
                clear b0 b1 b2 b3 b4 zB HVA own4 gr4 nil4 at4 hB4
                rcases (by omega : (¬ 0 < er) ∨ (0 < er ∧ tm = 0) ∨ (0 < er ∧ ¬ tm = 0 ∧ er < tm) ∨ (0 < er ∧ ¬ tm = 0 ∧ ¬ er < tm)) with hr | hr | hr | hr
                · have d1 : decide (0 < er) = false := decide_eq_false hr
                  have HR := Lib.hid (show leastF ⟨eo, ef, el, (some ad), ec, ecap, er⟩ tm = tm by unfold leastF; simp only; first | (rw [if_pos (by omega)]) | (rw [if_neg (by omega)]))
                  clear hr
                  go_wp2_with (fail)
                  go_roundw
                  case rel => exact ⟨i + 1, ⟨true, tm, tc ++ ec⟩, by go_num, by omega, by rw [HS.out]; unfold stepF; rw [if_pos HCT.out]; simp only [HR.out], rfl, rfl, OW2.out, BW2.out⟩
                  case measure => simp [intOf]; omega
                · have d1 : decide (0 < er) = true := decide_eq_true hr.1
                  have d2 : (tm == 0) = true := by simp [hr.2]
                  have HR := Lib.hid (show leastF ⟨eo, ef, el, (some ad), ec, ecap, er⟩ tm = er by unfold leastF; simp only; first | (rw [if_pos (by omega)]) | (rw [if_neg (by omega)]))
                  clear hr
                  go_wp2_with (fail)
                  go_roundw
                  case rel => exact ⟨i + 1, ⟨true, er, tc ++ ec⟩, by go_num, by omega, by rw [HS.out]; unfold stepF; rw [if_pos HCT.out]; simp only [HR.out], rfl, rfl, OW2.out, BW2.out⟩
                  case measure => simp [intOf]; omega
                · have d1 : decide (0 < er) = true := decide_eq_true hr.1
                  have d2 : (tm == 0) = false := by simp [hr.2.1]
                  have d3 : decide (er < tm) = true := decide_eq_true hr.2.2
                  have HR := Lib.hid (show leastF ⟨eo, ef, el, (some ad), ec, ecap, er⟩ tm = er by unfold leastF; simp only; first | (rw [if_pos (by omega)]) | (rw [if_neg (by omega)]))
                  clear hr
                  go_wp2_with (fail)
                  go_roundw
                  case rel => exact ⟨i + 1, ⟨true, er, tc ++ ec⟩, by go_num, by omega, by rw [HS.out]; unfold stepF; rw [if_pos HCT.out]; simp only [HR.out], rfl, rfl, OW2.out, BW2.out⟩
                  case measure => simp [intOf]; omega
                · have d1 : decide (0 < er) = true := decide_eq_true hr.1
                  have d2 : (tm == 0) = false := by simp [hr.2.1]
                  have d3 : decide (er < tm) = false := decide_eq_false hr.2.2
                  have HR := Lib.hid (show leastF ⟨eo, ef, el, (some ad), ec, ecap, er⟩ tm = tm by unfold leastF; simp only; first | (rw [if_pos (by omega)]) | (rw [if_neg (by omega)]))
                  clear hr
                  go_wp2_with (fail)
                  go_roundw
                  case rel => exact ⟨i + 1, ⟨true, tm, tc ++ ec⟩, by go_num, by omega, by rw [HS.out]; unfold stepF; rw [if_pos HCT.out]; simp only [HR.out], rfl, rfl, OW2.out, BW2.out⟩
                  case measure => simp [intOf]; omega
            · have d4 : decide (n ≤ el) = false := decide_eq_false h4
              have H4 := Lib.hid h4
              clear h4
              have HN := Lib.hid (show ¬ Counts ⟨eo, ef, el, ea, ec, ecap, er⟩ of n from fun h => h.2.2.elim H3.out H4.out)
              skip
              go_wp2_with (fail)
              go_roundw
              case rel => exact ⟨i + 1, ⟨ts, tm, tc⟩, by go_num, by omega, by rw [HS.out]; unfold stepF; rw [if_neg HN.out], rfl, rfl, OW1.out, BW1.out⟩
              case measure => simp [intOf]; omega
        · have d2 : decide (ef ≤ n) = false := decide_eq_false h2
          have H2 := Lib.hid h2
          clear h2
          have HN := Lib.hid (show ¬ Counts ⟨eo, ef, el, ea, ec, ecap, er⟩ of n from fun h => H2.out h.2.1)
          skip
          go_wp2_with (fail)
          go_roundw
          case rel => exact ⟨i + 1, ⟨ts, tm, tc⟩, by go_num, by omega, by rw [HS.out]; unfold stepF; rw [if_neg HN.out], rfl, rfl, OW1.out, BW1.out⟩
          case measure => simp [intOf]; omega
      · have d1 : (eo == of) = false := by simp [h1]
        have H1 := Lib.hid h1
        clear h1
        have HN := Lib.hid (show ¬ Counts ⟨eo, ef, el, ea, ec, ecap, er⟩ of n from fun h => H1.out h.1)
        skip
        go_wp2_with (fail)
        go_roundw
        case rel => exact ⟨i + 1, ⟨ts, tm, tc⟩, by go_num, by omega, by rw [HS.out]; unfold stepF; rw [if_neg HN.out], rfl, rfl, OW1.out, BW1.out⟩
        case measure => simp [intOf]; omega
    · obtain rfl : i = L.length := by omega
      rw [List.take_length] at hT
      have HSZ := Lib.hid bel.size
      have HOW := Lib.hid own'
      have hlen : tc.length ≤ 65536 := by have h1 := allF_len of n L; rw [hT] at h1; simp only at h1; have := HT0.out; omega
      have hR := RdI.of_owns own' rfl (Nat.le_refl wr.heap.size)
      have HT2 := Lib.hid hT
      have BEL := Lib.hid bel
      clear own' hT
      cases ts with
      | true =>
        have ON := Lib.hid (refonce_walk u12 tc hlen wr hR)
        clear hR bel
        go_wp2_with (fail)
        refine ON.out.mono ?_
        rintro x w2 ⟨v2, M, rfl, hU, hML, hown, hb⟩
        have HU2 := Lib.hid hU
        have HM2 := Lib.hid (show M.length ≤ 65536 by omega)
        have HO2 := Lib.hid hown
        have HB2 := Lib.hid hb
        clear hU hML hown hb ON
        go_wp2
        go_ret2
        exact ⟨v2, M, by rw [HT2.out]; rfl, by rw [HT2.out]; exact HU2.out, HM2.out, owns_mono1 HO2.out HSZ.out, BEL.out.trans (HB2.out.mono HSZ.out)⟩
      | false =>
        have ON := Lib.hid (refonce_walk u own HO.out wr ((HU.out.below bel (Nat.le_refl _)).wider bel.size))
        have hown := HO.out
        clear hR bel
        go_wp2_with (fail)
        refine ON.out.mono ?_
        rintro x w2 ⟨v2, M, rfl, hU, hML, hown2, hb⟩
        have HU2 := Lib.hid hU
        have HM2 := Lib.hid (show M.length ≤ 65536 by omega)
        have HO2 := Lib.hid hown2
        have HB2 := Lib.hid hb
        clear hU hML hown2 hb ON
        go_wp2
        go_ret2
        exact ⟨v2, M, by rw [HT2.out]; simp only [secF]; first | rfl | (simp; done) | (congr 3; simp only [Int.max_def]; split <;> split <;> omega), by rw [HT2.out]; exact HU2.out, HM2.out, owns_mono1 HO2.out HSZ.out, BEL.out.trans (HB2.out.mono HSZ.out)⟩
end Go.Proofs.YtjffciejoahegaaDoor
