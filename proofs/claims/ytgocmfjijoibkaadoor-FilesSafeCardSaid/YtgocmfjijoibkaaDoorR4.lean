/- The document's With. -/
import Derived.Test.YtgocmfjijoibkaaDoorR3
import Derived.Sort.Walk0
namespace Go.Proofs.YtgocmfjijoibkaaDoor
open Go.RowKit
set_option linter.unusedSimpArgs false
set_option linter.unusedVariables false
def WithI (f : Fl) (R : List Fl) (w2 : World) (v : Value) (p : Bool) (i : Nat) (wl : World) : Prop := ∃ X, OutF w2.heap.size w2 v X wl ∧ X.length + (if p = true then 0 else 1) ≤ i + 1 ∧ X ++ (if p = true then R.drop i else insF f (R.drop i)) = insF f R
theorem owns_mono2 {w : World} {B C n : Nat} {t : TypeId} {v : Value} {xs : List Value} (h : w.ownsRow B t 2 v n xs) (k : C ≤ B) : w.ownsRow C t 2 v n xs := by
  refine ⟨h.1, h.2.imp id ?_⟩
  rintro ⟨g, cap, cur, e, hB, r⟩
  exact ⟨g, cap, cur, e, Nat.le_trans k hB, r⟩
theorem OutF.rd {b0 : Nat} {w : World} {v : Value} {X : List Fl} {wl : World} (h : OutF b0 w v X wl) : RdF wl v X := RdF.of_owns h.1
set_option maxHeartbeats 8000000 in
set_option maxRecDepth 100000 in
theorem with_walk (v : Value) (F : List Fl) (f : Fl) (w : World) (h : RdF w v F) (hF : F.length ≤ 64) : Calls Tryd.prog 51 #[v, .agg #[.string ⟨f.1.toArray⟩, .string ⟨f.2.toArray⟩]] w (FilesSaid w.heap.size (withF F f) w) := by
  obtain ⟨ii, hi0, hz0, hz1, hz2⟩ := info_parts info83
  have hB1 := (Below.refl w.heap.size w).alloc (Nat.le_refl _) (.cells #[.string ⟨f.1.toArray⟩, .string ⟨f.2.toArray⟩] 83)
  have hbx := Blk.new w 83 #[.string ⟨f.1.toArray⟩, .string ⟨f.2.toArray⟩]
  have WW := without_walk v F f.1 _ (h.kept (KeptY.below hB1)) hF
  have c0 : (w.alloc (.cells #[.string ⟨f.1.toArray⟩, .string ⟨f.2.toArray⟩] 83)).cell? ⟨w.heap.size, 0, none⟩ = some (.string ⟨f.1.toArray⟩) := by rw [hbx.cell]; rfl
  have zb := hbx.lt
  have HBX := Lib.hid hbx
  have HB1 := Lib.hid hB1
  clear h hbx hB1
  go_enter Tryd.func51, Tryd.ntmps51
  go_upto_region 3 with (fail)
  generalize w.alloc (.cells #[.string ⟨f.1.toArray⟩, .string ⟨f.2.toArray⟩] 83) = w1 at *
  go_wp2_with (fail)
  refine Calls.mono WW ?_
  rintro y w2 ⟨vR, rfl, hr, hb2⟩
  have hrd := OutF.rd ⟨hr, hb2⟩
  obtain ⟨AR, cR, rfl⟩ := hrd.form
  have HR := Lib.hid hrd
  have HB2 := Lib.hid hb2
  have HW2 := Lib.hid (show withF F f = insF f (withoutF F f.1) from rfl)
  have hRl : (withoutF F f.1).length ≤ 64 := Nat.le_trans (without_le _ _) hF
  clear WW hr hb2 hrd c0 zb
  generalize withoutF F f.1 = R at *
  have H0 := Lib.hid (show WithI f R w2 (.slice none 0 0) false 0 w2 from ⟨[], ⟨RowFl.nil _ _, Below.refl _ _⟩, by simp, rfl⟩)
  generalize hb0 : w.heap.size = b0 at *
  have HB0 := Lib.hid hb0
  have HBW := Lib.hid (show Below b0 w w2 from HB1.out.trans (HB2.out.mono (Nat.le_of_lt HBX.out.lt)))
  go_upto_region 4 with (fail)
  go_wp2_with (fail)
  go_loopw [5, 6, 8] (fun ov pv iv wl => ∃ (i : Nat) (p : Bool), iv = .int .i64 i ∧ pv = .bool p ∧ i ≤ R.length ∧ WithI f R w2 ov p i wl) (fun _ _ iv _ => R.length - (intOf iv).toNat)
  case atStart => exact ⟨0, false, rfl, rfl, Nat.zero_le _, H0.out⟩
  case round =>
    obtain ⟨wl, rfl⟩ : ∃ Z, Z = wr := ⟨_, rfl⟩
    obtain ⟨i, p, rfl, rfl, hi, X, ⟨hX, hb⟩, hXl, hXe⟩ := hrel
    have i0 : (0 : Int) ≤ i := by omega
    have HX := Lib.hid hX
    have BEL := Lib.hid hb
    have HXE := Lib.hid hXe
    clear hX hb hXe H0
    have hblk := (HBX.out.below HB2.out).below BEL.out
    have d0 : wl.cell? ⟨b0, 0, none⟩ = some (.string ⟨f.1.toArray⟩) := by rw [hblk.cell]; rfl
    have d1 : wl.cell? ⟨b0, 1, none⟩ = some (.string ⟨f.2.toArray⟩) := by rw [hblk.cell]; rfl
    have zd := hblk.lt
    clear hblk
    by_cases hil : i < R.length
    · have hil' : (i : Int) < (R.length : Int) := by omega
      obtain ⟨g, hg, hd, _⟩ := drop_at hil
      obtain ⟨q, rfl, hq0, hq1, hqz⟩ := HR.out.at_ hg
      have HQ := Lib.hid hqz
      have HQ0 := Lib.hid hq0
      have HQ1 := Lib.hid hq1
      have e0 := bel_cell BEL.out hq0
      have e1 := bel_cell BEL.out hq1
      have zq := Nat.lt_of_lt_of_le hqz BEL.out.size
      clear hq0 hq1 hqz
      have HXL := Lib.hid hXl
      clear hg hXl
      cases p with
      | true =>
        have HN := Lib.hid (show (X ++ [g]) ++ R.drop (i + 1) = insF f R by rw [← HXE.out, if_pos rfl, hd]; simp)
        clear hd
        go_upto_region 7 with (fail)
        go_quiet (fail)
        have BEL2 := Lib.hid (below_drewN BEL.out nq)
        have HX2 := Lib.hid (show RowFl w2.heap.size u5 X (wl.drewN nq) from HX.out)
        have x0 : (wl.drewN nq).cell? ⟨q, i * 2, none⟩ = some (.string ⟨g.1.toArray⟩) := e0
        have x1 : (wl.drewN nq).cell? ⟨q, i * 2 + 1, none⟩ = some (.string ⟨g.2.toArray⟩) := e1
        have zx : q < (wl.drewN nq).heap.size := zq
        have y0 : (wl.drewN nq).cell? ⟨b0, 0, none⟩ = some (.string ⟨f.1.toArray⟩) := d0
        have y1 : (wl.drewN nq).cell? ⟨b0, 1, none⟩ = some (.string ⟨f.2.toArray⟩) := d1
        have zy : b0 < (wl.drewN nq).heap.size := zd
        clear BEL HX e0 e1 zq d0 d1 zd
        generalize wl.drewN nq = wz at *
        have hXl := HXL.out
        simp only [if_true, if_false, Bool.false_eq_true] at hXl
        clear y0 y1 zy
        have hva := HX2.out.alloc (.cells #[.string ⟨g.1.toArray⟩, .string ⟨g.2.toArray⟩] 83)
        have hnw := Lib.hid (World.news_of_block (cs := #[.string ⟨g.1.toArray⟩, .string ⟨g.2.toArray⟩]) (t := 83) (fr := (0, 0)) (heap_alloc_new wz (.cells #[.string ⟨g.1.toArray⟩, .string ⟨g.2.toArray⟩] 83)))
        have hsz4 : w2.heap.size ≤ (wz.alloc (.cells #[.string ⟨g.1.toArray⟩, .string ⟨g.2.toArray⟩] 83)).heap.size := by have h1 := BEL2.out.size; simp; omega
        go_wp2_with (at_builtin; refine wpList_append_own_at _ rfl _ _ 38 rfl w2.heap.size 83 ii (.agg #[.string ByteArray.empty, .string ByteArray.empty]) 2 32 Tryd.underlying38 hi0 hz0 hz1 hz2 rfl (by decide) _ (X).length (cellsFl (X)) rfl hva ⟨wz.heap.size, 0, none⟩ 1 1 [.string ⟨g.1.toArray⟩, .string ⟨g.2.toArray⟩] rfl rfl hnw.out (by simp [Value.oneCell']) (by simp only [maxLen]; omega) (by omega) hsz4 ?_; intro v5 w5 own5 gr5 nil5 at5)
        have B5 := Lib.hid (below_grown' (BEL2.out.alloc BEL2.out.size _) gr5 (fun k e => (HX2.out.lt k e).1) hsz4)
        rw [show cellsFl X ++ [.string ⟨g.1.toArray⟩, .string ⟨g.2.toArray⟩] = cellsFl (X ++ [g]) from by rw [cellsFl_snoc]; rfl, show X.length + 1 = (X ++ [g]).length by simp] at own5
        have HO5 := Lib.hid own5
        clear own5 gr5 nil5 at5 hva hsz4
        go_wp2
        go_roundw
        case rel => exact ⟨i + 1, true, by go_num, rfl, by omega, X ++ [g], ⟨HO5.out, B5.out⟩, by have := HXL.out; simp at this ⊢; omega, by rw [if_pos rfl]; exact HN.out⟩
        case measure => simp [intOf]; omega
      | false =>
        by_cases hlt : f.1 < g.1
        · have HN := Lib.hid (show ((X ++ [f]) ++ [g]) ++ R.drop (i + 1) = insF f R by rw [← HXE.out, if_neg (by decide), hd, insF, if_pos hlt]; simp)
          have hltb : Op.bytesLess f.1 g.1 = true := (Proofs.bytesLess_eq _ _).trans (decide_eq_true hlt)
          clear hd
          go_upto_region 7 with (fail)
          go_quiet (fail)
          have BEL2 := Lib.hid (below_drewN BEL.out nq)
          have HX2 := Lib.hid (show RowFl w2.heap.size u5 X (wl.drewN nq) from HX.out)
          have x0 : (wl.drewN nq).cell? ⟨q, i * 2, none⟩ = some (.string ⟨g.1.toArray⟩) := e0
          have x1 : (wl.drewN nq).cell? ⟨q, i * 2 + 1, none⟩ = some (.string ⟨g.2.toArray⟩) := e1
          have zx : q < (wl.drewN nq).heap.size := zq
          have y0 : (wl.drewN nq).cell? ⟨b0, 0, none⟩ = some (.string ⟨f.1.toArray⟩) := d0
          have y1 : (wl.drewN nq).cell? ⟨b0, 1, none⟩ = some (.string ⟨f.2.toArray⟩) := d1
          have zy : b0 < (wl.drewN nq).heap.size := zd
          clear BEL HX e0 e1 zq d0 d1 zd
          generalize wl.drewN nq = wz at *
          have hXl := HXL.out
          simp only [if_true, if_false, Bool.false_eq_true] at hXl
          have hva := HX2.out.alloc (.cells #[.string ⟨f.1.toArray⟩, .string ⟨f.2.toArray⟩] 83)
          have hnw := Lib.hid (World.news_of_block (cs := #[.string ⟨f.1.toArray⟩, .string ⟨f.2.toArray⟩]) (t := 83) (fr := (0, 0)) (heap_alloc_new wz (.cells #[.string ⟨f.1.toArray⟩, .string ⟨f.2.toArray⟩] 83)))
          have hsz4 : w2.heap.size ≤ (wz.alloc (.cells #[.string ⟨f.1.toArray⟩, .string ⟨f.2.toArray⟩] 83)).heap.size := by have h1 := BEL2.out.size; simp; omega
          go_upto_region 9 with (at_builtin; refine wpList_append_own_at _ rfl _ _ 38 rfl w2.heap.size 83 ii (.agg #[.string ByteArray.empty, .string ByteArray.empty]) 2 32 Tryd.underlying38 hi0 hz0 hz1 hz2 rfl (by decide) _ (X).length (cellsFl (X)) rfl hva ⟨wz.heap.size, 0, none⟩ 1 1 [.string ⟨f.1.toArray⟩, .string ⟨f.2.toArray⟩] rfl rfl hnw.out (by simp [Value.oneCell']) (by simp only [maxLen]; omega) (by omega) hsz4 ?_; intro v6 w6 own6 gr6 nil6 at6; have B6 := Lib.hid (below_grown' (BEL2.out.alloc BEL2.out.size _) gr6 (fun k e => (HX2.out.lt k e).1) hsz4); have x0' : w6.cell? ⟨q, i * 2, none⟩ = some (.string ⟨g.1.toArray⟩) := (B6.out.cell (p := ⟨q, i * 2, none⟩) HQ.out).trans HQ0.out; have x1' : w6.cell? ⟨q, i * 2 + 1, none⟩ = some (.string ⟨g.2.toArray⟩) := (B6.out.cell (p := ⟨q, i * 2 + 1, none⟩) HQ.out).trans HQ1.out; have zx' : q < w6.heap.size := Nat.lt_of_lt_of_le HQ.out B6.out.size)
          rw [show cellsFl X ++ [.string ⟨f.1.toArray⟩, .string ⟨f.2.toArray⟩] = cellsFl (X ++ [f]) from by rw [cellsFl_snoc]; rfl, show X.length + 1 = (X ++ [f]).length by simp] at own6
          have HO6 := Lib.hid (show RowFl w2.heap.size v6 (X ++ [f]) w6 from own6)
          have hXf : (X ++ [f]).length ≤ i + 2 := by simp; omega
          clear own6 gr6 nil6 at6 hva hsz4 hnw x0 x1 zx y0 y1 zy HX2 BEL2
          have hva := HO6.out.alloc (.cells #[.string ⟨g.1.toArray⟩, .string ⟨g.2.toArray⟩] 83)
          have hnw := Lib.hid (World.news_of_block (cs := #[.string ⟨g.1.toArray⟩, .string ⟨g.2.toArray⟩]) (t := 83) (fr := (0, 0)) (heap_alloc_new w6 (.cells #[.string ⟨g.1.toArray⟩, .string ⟨g.2.toArray⟩] 83)))
          have hsz4 : w2.heap.size ≤ (w6.alloc (.cells #[.string ⟨g.1.toArray⟩, .string ⟨g.2.toArray⟩] 83)).heap.size := by have h1 := B6.out.size; simp; omega
          go_wp2_with (at_builtin; refine wpList_append_own_at _ rfl _ _ 38 rfl w2.heap.size 83 ii (.agg #[.string ByteArray.empty, .string ByteArray.empty]) 2 32 Tryd.underlying38 hi0 hz0 hz1 hz2 rfl (by decide) _ (X ++ [f]).length (cellsFl (X ++ [f])) rfl hva ⟨w6.heap.size, 0, none⟩ 1 1 [.string ⟨g.1.toArray⟩, .string ⟨g.2.toArray⟩] rfl rfl hnw.out (by simp [Value.oneCell']) (by simp only [maxLen]; omega) (by omega) hsz4 ?_; intro v5 w5 own5 gr5 nil5 at5)
          have B5 := Lib.hid (below_grown' (B6.out.alloc B6.out.size _) gr5 (fun k e => (HO6.out.lt k e).1) hsz4)
          rw [show cellsFl (X ++ [f]) ++ [.string ⟨g.1.toArray⟩, .string ⟨g.2.toArray⟩] = cellsFl ((X ++ [f]) ++ [g]) from by rw [cellsFl_snoc (X ++ [f])]; rfl, show (X ++ [f]).length + 1 = ((X ++ [f]) ++ [g]).length by simp] at own5
          have HO5 := Lib.hid own5
          clear own5 gr5 nil5 at5 hva hsz4
          go_wp2
          go_roundw
          case rel => exact ⟨i + 1, true, by go_num, rfl, by omega, (X ++ [f]) ++ [g], ⟨HO5.out, B5.out⟩, by have := HXL.out; simp at this ⊢; omega, by rw [if_pos rfl]; exact HN.out⟩
          case measure => simp [intOf]; omega
        · have HN := Lib.hid (show (X ++ [g]) ++ insF f (R.drop (i + 1)) = insF f R by rw [← HXE.out, if_neg (by decide), hd, insF, if_neg hlt]; simp)
          have hltb : Op.bytesLess f.1 g.1 = false := (Proofs.bytesLess_eq _ _).trans (decide_eq_false hlt)
          clear hd
          go_upto_region 7 with (fail)
          go_quiet (fail)
          have BEL2 := Lib.hid (below_drewN BEL.out nq)
          have HX2 := Lib.hid (show RowFl w2.heap.size u5 X (wl.drewN nq) from HX.out)
          have x0 : (wl.drewN nq).cell? ⟨q, i * 2, none⟩ = some (.string ⟨g.1.toArray⟩) := e0
          have x1 : (wl.drewN nq).cell? ⟨q, i * 2 + 1, none⟩ = some (.string ⟨g.2.toArray⟩) := e1
          have zx : q < (wl.drewN nq).heap.size := zq
          have y0 : (wl.drewN nq).cell? ⟨b0, 0, none⟩ = some (.string ⟨f.1.toArray⟩) := d0
          have y1 : (wl.drewN nq).cell? ⟨b0, 1, none⟩ = some (.string ⟨f.2.toArray⟩) := d1
          have zy : b0 < (wl.drewN nq).heap.size := zd
          clear BEL HX e0 e1 zq d0 d1 zd
          generalize wl.drewN nq = wz at *
          have hXl := HXL.out
          simp only [if_true, if_false, Bool.false_eq_true] at hXl
          clear y0 y1 zy
          have hva := HX2.out.alloc (.cells #[.string ⟨g.1.toArray⟩, .string ⟨g.2.toArray⟩] 83)
          have hnw := Lib.hid (World.news_of_block (cs := #[.string ⟨g.1.toArray⟩, .string ⟨g.2.toArray⟩]) (t := 83) (fr := (0, 0)) (heap_alloc_new wz (.cells #[.string ⟨g.1.toArray⟩, .string ⟨g.2.toArray⟩] 83)))
          have hsz4 : w2.heap.size ≤ (wz.alloc (.cells #[.string ⟨g.1.toArray⟩, .string ⟨g.2.toArray⟩] 83)).heap.size := by have h1 := BEL2.out.size; simp; omega
          go_wp2_with (at_builtin; refine wpList_append_own_at _ rfl _ _ 38 rfl w2.heap.size 83 ii (.agg #[.string ByteArray.empty, .string ByteArray.empty]) 2 32 Tryd.underlying38 hi0 hz0 hz1 hz2 rfl (by decide) _ (X).length (cellsFl (X)) rfl hva ⟨wz.heap.size, 0, none⟩ 1 1 [.string ⟨g.1.toArray⟩, .string ⟨g.2.toArray⟩] rfl rfl hnw.out (by simp [Value.oneCell']) (by simp only [maxLen]; omega) (by omega) hsz4 ?_; intro v5 w5 own5 gr5 nil5 at5)
          have B5 := Lib.hid (below_grown' (BEL2.out.alloc BEL2.out.size _) gr5 (fun k e => (HX2.out.lt k e).1) hsz4)
          rw [show cellsFl X ++ [.string ⟨g.1.toArray⟩, .string ⟨g.2.toArray⟩] = cellsFl (X ++ [g]) from by rw [cellsFl_snoc]; rfl, show X.length + 1 = (X ++ [g]).length by simp] at own5
          have HO5 := Lib.hid own5
          clear own5 gr5 nil5 at5 hva hsz4
          go_wp2
          go_roundw
          case rel => exact ⟨i + 1, false, by go_num, rfl, by omega, X ++ [g], ⟨HO5.out, B5.out⟩, by have := HXL.out; simp at this ⊢; omega, by rw [if_neg (by decide)]; exact HN.out⟩
          case measure => simp [intOf]; omega
    · have hil' : ¬ (i : Int) < (R.length : Int) := by omega
      have hdr : R.drop i = [] := List.drop_eq_nil_of_le (by omega)
      rw [hdr] at HXE
      cases p with
      | true =>
        have HE := Lib.hid (show FilesSaid b0 (withF F f) w (.returned u5) wl from ⟨_, rfl, by
          have h := HXE.out
          rw [if_pos rfl, List.append_nil] at h
          rw [HW2.out, ← h]
          exact ⟨owns_mono2 HX.out (Nat.le_trans (Nat.le_of_lt HBX.out.lt) HB2.out.size), HBW.out.trans (BEL.out.mono (Nat.le_trans (Nat.le_of_lt HBX.out.lt) HB2.out.size))⟩⟩)
        go_wp2_with (fail)
        go_ret
        exact HE.out
      | false =>
        have HN := Lib.hid (show X ++ [f] = insF f R from by have h := HXE.out; rw [if_neg (by decide)] at h; exact h)
        have HZ := Lib.hid (Nat.le_trans (Nat.le_of_lt HBX.out.lt) HB2.out.size)
        simp at hXl
        have hva := HX.out.alloc (.cells #[.string ⟨f.1.toArray⟩, .string ⟨f.2.toArray⟩] 83)
        have hnw := Lib.hid (World.news_of_block (cs := #[.string ⟨f.1.toArray⟩, .string ⟨f.2.toArray⟩]) (t := 83) (fr := (0, 0)) (heap_alloc_new wl (.cells #[.string ⟨f.1.toArray⟩, .string ⟨f.2.toArray⟩] 83)))
        have hsz4 : w2.heap.size ≤ (wl.alloc (.cells #[.string ⟨f.1.toArray⟩, .string ⟨f.2.toArray⟩] 83)).heap.size := by have h1 := BEL.out.size; simp; omega
        go_wp2_with (at_builtin; refine wpList_append_own_at _ rfl _ _ 38 rfl w2.heap.size 83 ii (.agg #[.string ByteArray.empty, .string ByteArray.empty]) 2 32 Tryd.underlying38 hi0 hz0 hz1 hz2 rfl (by decide) _ (X).length (cellsFl (X)) rfl hva ⟨wl.heap.size, 0, none⟩ 1 1 [.string ⟨f.1.toArray⟩, .string ⟨f.2.toArray⟩] rfl rfl hnw.out (by simp [Value.oneCell']) (by simp only [maxLen]; omega) (by omega) hsz4 ?_; intro v5 w5 own5 gr5 nil5 at5)
        have B5 := Lib.hid (below_grown' (BEL.out.alloc BEL.out.size _) gr5 (fun k e => (HX.out.lt k e).1) hsz4)
        rw [show cellsFl X ++ [.string ⟨f.1.toArray⟩, .string ⟨f.2.toArray⟩] = cellsFl (X ++ [f]) from by rw [cellsFl_snoc]; rfl, show X.length + 1 = (X ++ [f]).length by simp] at own5
        have HO5 := Lib.hid own5
        clear own5 gr5 nil5 at5 hva hsz4
        have HE := Lib.hid (show FilesSaid b0 (withF F f) w (.returned v5) w5 from ⟨_, rfl, by
          rw [HW2.out, ← HN.out]
          exact ⟨owns_mono2 HO5.out HZ.out, HBW.out.trans (B5.out.mono HZ.out)⟩⟩)
        go_wp2
        go_ret
        exact HE.out
end Go.Proofs.YtgocmfjijoibkaaDoor
