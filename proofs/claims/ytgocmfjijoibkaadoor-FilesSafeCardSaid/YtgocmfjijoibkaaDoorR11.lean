/- FilesRuns walked. -/
import Derived.Test.YtgocmfjijoibkaaDoorR10
namespace Go.Proofs.YtgocmfjijoibkaaDoor
open Go.RowKit
set_option linter.unusedSimpArgs false
set_option linter.unusedVariables false
set_option linter.unusedVariables false
open Go.Shelf
/-- An act's fields lie where a machine's do. -/
structure AcOk (a : Ac) : Prop where
  n : a.name.size ≤ 9223372036854775807
  d : a.dst.size ≤ 9223372036854775807
  b : a.b.size ≤ 9223372036854775807
  s : -9223372036854775808 ≤ a.steps ∧ a.steps ≤ 9223372036854775807
  p : -9223372036854775808 ≤ a.part ∧ a.part ≤ 9223372036854775807
/-- The law's disk: in block q the document's, in d the program's. -/
def LoR (B d q : Nat) (w1 wl : World) (x : FS) (V1 V2 V3 : Value) : Prop := Blk wl q 41 #[V1, V2, V3] ∧ Both B d wl (.agg #[V1, V2, V3]) x ∧ Below B w1 wl
def LoX (B d q : Nat) (w1 wl : World) : Prop := ∃ x V1 V2 V3, LoR B d q w1 wl x V1 V2 V3
theorem LoX.open_ {B d q : Nat} {w1 wl : World} (h : LoX B d q w1 wl) : ∃ x A1 l1 c1 A2 l2 c2 A3 l3 c3, LoR B d q w1 wl x (.slice A1 l1 c1) (.slice A2 l2 c2) (.slice A3 l3 c3) := by
  obtain ⟨x, V1, V2, V3, h1, ⟨⟨u1, u2, u3, e, g1, g2, g3⟩, hd⟩, h3⟩ := h
  cases e
  obtain ⟨A1, c1, rfl⟩ := g1.form
  obtain ⟨A2, c2, rfl⟩ := g2.form
  obtain ⟨A3, c3, rfl⟩ := g3.form
  exact ⟨x, _, _, _, _, _, _, _, _, _, h1, ⟨⟨_, _, _, rfl, g1, g2, g3⟩, hd⟩, h3⟩
theorem Both.below {B d : Nat} {w w1 : World} {v : Value} {x : FS} (h : Both B d w v x) (hb : Below w.heap.size w w1) : Both B d w1 v x := ⟨h.1.kept (KeptY.below hb), h.2.below hb⟩
def S10 (q g o : Nat) (V1 V2 V3 : Value) (a : Ac) (w : World) : Prop := Blk w q 41 #[V1, V2, V3] ∧ AcAt w g o a ∧ g < w.heap.size
theorem S10.of {q g o : Nat} {V1 V2 V3 : Value} {a : Ac} {w w' : World} {B : Nat} (h : S10 q g o V1 V2 V3 a w) (hF : Fr B w w') (hg : g < B) : S10 q g o V1 V2 V3 a w' := ⟨blk_keptY h.1 hF.2 (by decide) (by decide), h.2.1.below hF.1 hg, Nat.lt_of_lt_of_le h.2.2 hF.2.1⟩
theorem acAt_far {w : World} {g o p : Nat} {a : Ac} (h : AcAt w g o a) (hp : g < p) (j : Nat) (v : Value) : AcAt (w.setCell ⟨p, j, none⟩ v) g o a := by
  have e : ∀ k, (w.setCell ⟨p, j, none⟩ v).cell? ⟨g, k, none⟩ = w.cell? ⟨g, k, none⟩ := fun k => by
    unfold World.cell?
    rw [heap_far j v (show g ≠ p by omega)]
  exact ⟨(e _).trans h.k, (e _).trans h.n, (e _).trans h.d, (e _).trans h.b, (e _).trans h.s, (e _).trans h.p⟩
theorem S10.set {q g o : Nat} {V1 V2 V3 : Value} {a : Ac} {w : World} (h : S10 q g o V1 V2 V3 a w) {p : Nat} (hp : q < p) (hg : g < p) (j : Nat) (v : Value) : S10 q g o V1 V2 V3 a (w.setCell ⟨p, j, none⟩ v) := ⟨blk_far h.1 j v (by omega), acAt_far h.2.1 hg j v, by simpa using h.2.2⟩
set_option maxHeartbeats 16000000 in
set_option maxRecDepth 100000 in
theorem filesRuns_walk (v : Value) (X : List Ac) (w : World) (hg : ErrType w) (hX : RdA w v w.heap.size X) (hl : X.length ≤ 9223372036854775807) (hok : ∀ a, a ∈ X → AcOk a) : Calls Tryd.prog 4 #[v] w (SureSaid w) := by
  obtain ⟨A, cap, rfl⟩ := hX.form
  have NW := new_ok w
  have HXX := Lib.hid hX
  have HOK := Lib.hid hok
  have HG := Lib.hid hg
  clear hX hok hg
  go_enter Tryd.func4, Tryd.ntmps4
  go_upto_region 1 with (fail)
  go_wp2_with (fail)
  refine Calls.mono NW ?_
  rintro y w1 ⟨d, rfl, hd, hB1⟩
  generalize hB : w.heap.size = B at *
  have HB1 := Lib.hid hB1
  have HA := Lib.hid (HXX.out.below hB1 (Nat.le_refl _))
  have HG1 := Lib.hid (show ErrType w1 from HG.out.below (by rw [hB]; exact hB1))
  have HGB := Lib.hid (show 0 < B by rw [← hB]; exact HG.out.lt)
  have hal := (Below.refl w1.heap.size w1).alloc (Nat.le_refl _) (.cells #[.slice none 0 0, .slice none 0 0, .slice none 0 0] 41)
  have hBs := hd.1.lo.2
  have H0 := Lib.hid (show LoX B d w1.heap.size w1 (w1.alloc (.cells #[.slice none 0 0, .slice none 0 0, .slice none 0 0] 41)) from ⟨⟨[], [], []⟩, _, _, _, Blk.new w1 41 _, ⟨⟨_, _, _, rfl, RdF.nil _, RdF.nil _, RdD.nil _⟩, hd.below hal⟩, hal.mono hBs⟩)
  have HBS := Lib.hid hBs
  clear NW hd hB1 hal HXX HG hBs
  go_upto_region 5 with (fail)
  generalize w1.alloc (.cells #[.slice none 0 0, .slice none 0 0, .slice none 0 0] 41) = w1a at *
  generalize hq : w1.heap.size = q at *
  have HQB := Lib.hid (show B ≤ q from HBS.out)
  go_wp2_with (fail)
  go_loopw [5, 6, 7, 8, 9, 10] (fun iv _ _ _ _ _ wl => ∃ i : Nat, iv = .int .i64 i ∧ i ≤ 60 ∧ LoX B d q w1 wl) (fun iv _ _ _ _ _ _ => 60 - (intOf iv).toNat)
  case atStart => exact ⟨0, rfl, by omega, H0.out⟩
  case round =>
    obtain ⟨wl, rfl⟩ : ∃ Z, Z = wr := ⟨_, rfl⟩
    obtain ⟨i, rfl, hi, hI⟩ := hrel
    have HI := Lib.hid hI
    clear hI H0
    have i0 : (0 : Int) ≤ i := by omega
    obtain ⟨x, A1, l1, c1, A2, l2, c2, A3, l3, c3, hblk, hboth, hbel⟩ := HI.out.open_
    have HBL := Lib.hid hbel
    have HBO := Lib.hid hboth
    have HBK := Lib.hid hblk
    clear hbel hboth hblk HI
    by_cases hil : i < X.length
    · have hil' : (i : Int) < (X.length : Int) := by omega
      by_cases hi60 : i < 60
      · have hi60' : (i : Int) < 60 := by omega
        obtain ⟨g, o, rfl, ha0⟩ := HA.out.at_ hil
        have hgB : g < B := by
          rcases HA.out with ⟨A, c, e, _, h0⟩ | ⟨g', o', c, e, hg, _⟩
          · rw [h0] at hil; simp at hil
          · cases e; exact hg
        have ha := ha0.below HBL.out hgB
        have HAC := Lib.hid (HOK.out (X.getD i ac0) (by rw [List.getD_eq_getElem?_getD, List.getElem?_eq_getElem hil]; exact List.getElem_mem _))
        have HAT := Lib.hid ha
        have HA0 := Lib.hid ha0
        generalize X.getD i ac0 = a at *
        obtain ⟨x0, x1, x2, x3, x4, x5⟩ := ha
        have zg := World.block_lt_of_cell? _ _ x0
        have hbz : (0 : Int) ≤ (a.b.size : Int) := by omega
        by_cases hb3 : 3000 < a.b.size ∧ a.b.size ≤ 65536
        · have hb3' : (3000 : Int) < (a.b.size : Int) := by omega
          have hb6' : (a.b.size : Int) ≤ 65536 := by omega
          have SW := sure_walk wl
          have HBT := Lib.hid (HB1.out.trans HBL.out)
          have HLO := Lib.hid HBO.out.2.1.lo.2
          go_wp2_with (fail)
          refine Calls.mono SW ?_
          rintro y w9 ⟨rfl, hB9⟩
          have HR := Lib.hid (show Below B w w9 from HBT.out.trans (hB9.mono HLO.out))
          clear SW hB9
          go_wp2_with (fail)
          go_ret
          exact ⟨rfl, by rw [hB]; exact HR.out⟩
        · by_cases hb3' : (3000 : Int) < (a.b.size : Int)
          · have hb6' : ¬ (a.b.size : Int) ≤ 65536 := by omega
            go_upto_region 10 with (fail)
            clear hb6'
            clear hb3 hb3' hbz x0 x1 x2 x3 x4 x5 zg
            have HS0 := Lib.hid (show S10 q g (o + i * 6) (.slice A1 l1 c1) (.slice A2 l2 c2) (.slice A3 l3 c3) a wl from ⟨HBK.out, HAT.out, Nat.lt_of_lt_of_le hgB HBO.out.2.1.lo.2⟩)
            have TC := Lib.hid (fun (w' : World) (h : Both B d w' (.agg #[(.slice A1 l1 c1), (.slice A2 l2 c2), (.slice A3 l3 c3)]) x) (hg : ErrType w') => tryl_walk B d a _ x w' HGB.out hg h HAC.out.n HAC.out.d HAC.out.b HAC.out.s.1 HAC.out.s.2 HAC.out.p.1 HAC.out.p.2)
            have HGL := Lib.hid (show ErrType wl from (HBL.out.cell (p := ⟨0, 0, none⟩) HGB.out).trans HG1.out)
            refine wp_region_noPanic ?_
            refine wp_region_held_drew (S := (fun w' => S10 q g (o + i * 6) (.slice A1 l1 c1) (.slice A2 l2 c2) (.slice A3 l3 c3) a w')) (by kernel_rfl) ?_ (fun hHeld => ?_)
            · exact HS0.out.of (Fr.below HBO.out.2.1.lo.2 (below_drewN (Below.refl _ _) 1)) hgB
            have bd : Below wl.heap.size wl wl.drew := below_drewN (Below.refl wl.heap.size wl) 1
            have HBd := Lib.hid (HBO.out.below bd)
            have HGd := Lib.hid (HGL.out.below bd)
            have HLd := Lib.hid (HBL.out.trans (bd.mono HBO.out.2.1.lo.2))
            have HSKd := Lib.hid (HBK.out.below bd)
            clear bd HBL HBO HBK HGL
            generalize wl.drew = wd at *
            refine reg_take (i := 0) (oi := _) (v := ?_) rfl (by kernel_rfl) (by kernel_rfl) (by kernel_rfl) (fun _ _ _ h => h) (by rfl) ?_ (by assumption) ?_
            rotate_left
            · intro w hSw; (try dsimp only at hSw); have d0 : w.cell? ⟨q, 0, none⟩ = some (.slice A1 l1 c1) := (by rw [hSw.1.cell]; rfl); have d1 : w.cell? ⟨q, 1, none⟩ = some (.slice A2 l2 c2) := (by rw [hSw.1.cell]; rfl); have d2 : w.cell? ⟨q, 2, none⟩ = some (.slice A3 l3 c3) := (by rw [hSw.1.cell]; rfl); have x0 := hSw.2.1.k; have x1 := hSw.2.1.n; have x2 := hSw.2.1.d; have x3 := hSw.2.1.b; have x4 := hSw.2.1.s; have x5 := hSw.2.1.p; have zg := hSw.2.2; have zq := hSw.1.lt; go_simp; try with_reducible rfl
            (try simp only [Act.put, List.setIfInBounds_toArray, List.set_cons_zero, List.set_cons_succ])
            refine reg_take (i := 1) (oi := _) (v := ?_) rfl (by kernel_rfl) (by kernel_rfl) (by kernel_rfl) (fun _ _ _ h => h) (by rfl) ?_ (by assumption) ?_
            rotate_left
            · intro w hSw; (try dsimp only at hSw); have d0 : w.cell? ⟨q, 0, none⟩ = some (.slice A1 l1 c1) := (by rw [hSw.1.cell]; rfl); have d1 : w.cell? ⟨q, 1, none⟩ = some (.slice A2 l2 c2) := (by rw [hSw.1.cell]; rfl); have d2 : w.cell? ⟨q, 2, none⟩ = some (.slice A3 l3 c3) := (by rw [hSw.1.cell]; rfl); have x0 := hSw.2.1.k; have x1 := hSw.2.1.n; have x2 := hSw.2.1.d; have x3 := hSw.2.1.b; have x4 := hSw.2.1.s; have x5 := hSw.2.1.p; have zg := hSw.2.2; have zq := hSw.1.lt; go_simp; try with_reducible rfl
            (try simp only [Act.put, List.setIfInBounds_toArray, List.set_cons_zero, List.set_cons_succ])
            refine reg_take (i := 2) (oi := _) (v := ?_) rfl (by kernel_rfl) (by kernel_rfl) (by kernel_rfl) (fun _ _ _ h => h) (by rfl) ?_ (by assumption) ?_
            rotate_left
            · intro w hSw; (try dsimp only at hSw); have d0 : w.cell? ⟨q, 0, none⟩ = some (.slice A1 l1 c1) := (by rw [hSw.1.cell]; rfl); have d1 : w.cell? ⟨q, 1, none⟩ = some (.slice A2 l2 c2) := (by rw [hSw.1.cell]; rfl); have d2 : w.cell? ⟨q, 2, none⟩ = some (.slice A3 l3 c3) := (by rw [hSw.1.cell]; rfl); have x0 := hSw.2.1.k; have x1 := hSw.2.1.n; have x2 := hSw.2.1.d; have x3 := hSw.2.1.b; have x4 := hSw.2.1.s; have x5 := hSw.2.1.p; have zg := hSw.2.2; have zq := hSw.1.lt; go_simp; try with_reducible rfl
            (try simp only [Act.put, List.setIfInBounds_toArray, List.set_cons_zero, List.set_cons_succ])
            refine reg_take (i := 3) (oi := _) (v := ?_) rfl (by kernel_rfl) (by kernel_rfl) (by kernel_rfl) (fun _ _ _ h => h) (by rfl) ?_ (by assumption) ?_
            rotate_left
            · intro w hSw; (try dsimp only at hSw); have d0 : w.cell? ⟨q, 0, none⟩ = some (.slice A1 l1 c1) := (by rw [hSw.1.cell]; rfl); have d1 : w.cell? ⟨q, 1, none⟩ = some (.slice A2 l2 c2) := (by rw [hSw.1.cell]; rfl); have d2 : w.cell? ⟨q, 2, none⟩ = some (.slice A3 l3 c3) := (by rw [hSw.1.cell]; rfl); have x0 := hSw.2.1.k; have x1 := hSw.2.1.n; have x2 := hSw.2.1.d; have x3 := hSw.2.1.b; have x4 := hSw.2.1.s; have x5 := hSw.2.1.p; have zg := hSw.2.2; have zq := hSw.1.lt; go_simp; try with_reducible rfl
            (try simp only [Act.put, List.setIfInBounds_toArray, List.set_cons_zero, List.set_cons_succ])
            refine reg_take (i := 4) (oi := _) (v := ?_) rfl (by kernel_rfl) (by kernel_rfl) (by kernel_rfl) (fun _ _ _ h => h) (by rfl) ?_ (by assumption) ?_
            rotate_left
            · intro w hSw; (try dsimp only at hSw); have d0 : w.cell? ⟨q, 0, none⟩ = some (.slice A1 l1 c1) := (by rw [hSw.1.cell]; rfl); have d1 : w.cell? ⟨q, 1, none⟩ = some (.slice A2 l2 c2) := (by rw [hSw.1.cell]; rfl); have d2 : w.cell? ⟨q, 2, none⟩ = some (.slice A3 l3 c3) := (by rw [hSw.1.cell]; rfl); have x0 := hSw.2.1.k; have x1 := hSw.2.1.n; have x2 := hSw.2.1.d; have x3 := hSw.2.1.b; have x4 := hSw.2.1.s; have x5 := hSw.2.1.p; have zg := hSw.2.2; have zq := hSw.1.lt; go_simp; try with_reducible rfl
            (try simp only [Act.put, List.setIfInBounds_toArray, List.set_cons_zero, List.set_cons_succ])
            refine reg_take (i := 5) (oi := _) (v := ?_) rfl (by kernel_rfl) (by kernel_rfl) (by kernel_rfl) (fun _ _ _ h => h) (by rfl) ?_ (by assumption) ?_
            rotate_left
            · intro w hSw; (try dsimp only at hSw); have d0 : w.cell? ⟨q, 0, none⟩ = some (.slice A1 l1 c1) := (by rw [hSw.1.cell]; rfl); have d1 : w.cell? ⟨q, 1, none⟩ = some (.slice A2 l2 c2) := (by rw [hSw.1.cell]; rfl); have d2 : w.cell? ⟨q, 2, none⟩ = some (.slice A3 l3 c3) := (by rw [hSw.1.cell]; rfl); have x0 := hSw.2.1.k; have x1 := hSw.2.1.n; have x2 := hSw.2.1.d; have x3 := hSw.2.1.b; have x4 := hSw.2.1.s; have x5 := hSw.2.1.p; have zg := hSw.2.2; have zq := hSw.1.lt; go_simp; try with_reducible rfl
            (try simp only [Act.put, List.setIfInBounds_toArray, List.set_cons_zero, List.set_cons_succ])
            have HQL_wd := Lib.hid (show q < wd.heap.size from hHeld.1.lt)
            refine wpAnyH_ready (rs := [6, 10]) (by kernel_rfl) (by simp) ?_
            refine reg_each (o := _) rfl (fun K hK => ?_) ?_
            · skip
              go_simp
              refine (TC.out _ HBd.out HGd.out).mono ?_
              rintro r w6 ⟨v6, x6, rfl, hbo, hF6⟩
              obtain ⟨⟨u1, u2, u3, eu, g1, g2, g3⟩, hdk⟩ := hbo
              subst eu
              obtain ⟨B1, e1, rfl⟩ := g1.form
              obtain ⟨B2, e2, rfl⟩ := g2.form
              obtain ⟨B3, e3, rfl⟩ := g3.form
              have HB6 := Lib.hid (show Both B d w6 (.agg #[.slice B1 x6.now.length e1, .slice B2 x6.sure.length e2, .slice B3 x6.T.length e3]) x6 from ⟨⟨_, _, _, rfl, g1, g2, g3⟩, hdk⟩)
              have HF6 := Lib.hid hF6
              clear hF6 g1 g2 g3 hdk
              go_wp2_with (fail)
              refine hK.out _ _ ?_ (fun hHeld2 => ?_)
              · exact hHeld.of HF6.out hgB
              clear hK K hHeld
              have hHeld := hHeld2
              clear hHeld2
              (try simp only [Act.put, List.setIfInBounds_toArray, List.set_cons_zero, List.set_cons_succ])
              have HL6 := Lib.hid (HLd.out.trans HF6.out.1)
              clear HF6 HBd HLd HGd TC
              have HQL_w6 := Lib.hid (show q < w6.heap.size from hHeld.1.lt)
              refine reg_take (i := 7) (oi := _) (v := ?_) rfl (by kernel_rfl) (by kernel_rfl) (by kernel_rfl) (fun _ _ _ h => h) (by rfl) ?_ (by assumption) ?_
              rotate_left
              · intro w hSw; (try dsimp only at hSw); have d0 : w.cell? ⟨q, 0, none⟩ = some (.slice A1 l1 c1) := (by rw [hSw.1.cell]; rfl); have d1 : w.cell? ⟨q, 1, none⟩ = some (.slice A2 l2 c2) := (by rw [hSw.1.cell]; rfl); have d2 : w.cell? ⟨q, 2, none⟩ = some (.slice A3 l3 c3) := (by rw [hSw.1.cell]; rfl); have x0 := hSw.2.1.k; have x1 := hSw.2.1.n; have x2 := hSw.2.1.d; have x3 := hSw.2.1.b; have x4 := hSw.2.1.s; have x5 := hSw.2.1.p; have zg := hSw.2.2; have zq := hSw.1.lt; go_simp; try with_reducible rfl
              (try simp only [Act.put, List.setIfInBounds_toArray, List.set_cons_zero, List.set_cons_succ])
              refine reg_take (i := 8) (oi := _) (v := ?_) rfl (by kernel_rfl) (by kernel_rfl) (by kernel_rfl) (fun _ _ _ h => h) (by rfl) ?_ (by assumption) ?_
              rotate_left
              · intro w hSw; (try dsimp only at hSw); have d0 : w.cell? ⟨q, 0, none⟩ = some (.slice A1 l1 c1) := (by rw [hSw.1.cell]; rfl); have d1 : w.cell? ⟨q, 1, none⟩ = some (.slice A2 l2 c2) := (by rw [hSw.1.cell]; rfl); have d2 : w.cell? ⟨q, 2, none⟩ = some (.slice A3 l3 c3) := (by rw [hSw.1.cell]; rfl); have x0 := hSw.2.1.k; have x1 := hSw.2.1.n; have x2 := hSw.2.1.d; have x3 := hSw.2.1.b; have x4 := hSw.2.1.s; have x5 := hSw.2.1.p; have zg := hSw.2.2; have zq := hSw.1.lt; go_simp; try with_reducible rfl
              (try simp only [Act.put, List.setIfInBounds_toArray, List.set_cons_zero, List.set_cons_succ])
              refine reg_take (i := 9) (oi := _) (v := ?_) rfl (by kernel_rfl) (by kernel_rfl) (by kernel_rfl) (fun _ _ _ h => h) (by rfl) ?_ (by assumption) ?_
              rotate_left
              · intro w hSw; (try dsimp only at hSw); have d0 : w.cell? ⟨q, 0, none⟩ = some (.slice A1 l1 c1) := (by rw [hSw.1.cell]; rfl); have d1 : w.cell? ⟨q, 1, none⟩ = some (.slice A2 l2 c2) := (by rw [hSw.1.cell]; rfl); have d2 : w.cell? ⟨q, 2, none⟩ = some (.slice A3 l3 c3) := (by rw [hSw.1.cell]; rfl); have x0 := hSw.2.1.k; have x1 := hSw.2.1.n; have x2 := hSw.2.1.d; have x3 := hSw.2.1.b; have x4 := hSw.2.1.s; have x5 := hSw.2.1.p; have zg := hSw.2.2; have zq := hSw.1.lt; go_simp; try with_reducible rfl
              (try simp only [Act.put, List.setIfInBounds_toArray, List.set_cons_zero, List.set_cons_succ])
              refine wpAnyH_ready (rs := [10]) (by kernel_rfl) (by simp) ?_
              refine reg_each (o := _) rfl (fun K hK => ?_) ?_
              · skip
                go_simp
                refine hK.out _ _ ?_ (fun hHeld2 => ?_)
                · exact hHeld.of (Fr.below HB6.out.2.1.lo.2 ((Below.refl w6.heap.size w6).alloc (Nat.le_refl _) (.cells #[.slice none 0 0, .slice none 0 0, .slice none 0 0] 41))) hgB
                clear hK K hHeld
                have hHeld := hHeld2
                clear hHeld2
                (try simp only [Act.put, List.setIfInBounds_toArray, List.set_cons_zero, List.set_cons_succ])
                have hba := ((Below.refl w6.heap.size w6).alloc (Nat.le_refl _) (.cells #[.slice none 0 0, .slice none 0 0, .slice none 0 0] 41))
                have P10 := Lib.hid (Blk.new w6 41 #[.slice none 0 0, .slice none 0 0, .slice none 0 0])
                have HP10 := Lib.hid (show q < w6.heap.size from HQL_w6.out)
                have HBx := Lib.hid (HB6.out.below hba)
                have HLx := Lib.hid (HL6.out.trans (hba.mono HB6.out.2.1.lo.2))
                clear hba HB6 HL6
                generalize w6.alloc (Obj.cells #[.slice none 0 0, .slice none 0 0, .slice none 0 0] 41) = wx at *
                generalize w6.heap.size = p6 at *
                have HGP := Lib.hid (show g < p6 by have := HP10.out; have := HQB.out; omega)
                refine wpAnyH_ready (rs := [11]) (by kernel_rfl) (by simp) ?_
                refine reg_each (o := _) rfl (fun K hK => ?_) ?_
                · skip
                  have kP := P10.out
                  have y0 : wx.cell? ⟨p6, 0, none⟩ = some (.slice none 0 0) := by rw [kP.cell]; rfl
                  have y1 : wx.cell? ⟨p6, 1, none⟩ = some (.slice none 0 0) := by rw [kP.cell]; rfl
                  have y2 : wx.cell? ⟨p6, 2, none⟩ = some (.slice none 0 0) := by rw [kP.cell]; rfl
                  have f0 := kP.frozen 0
                  have f1 := kP.frozen 1
                  have f2 := kP.frozen 2
                  have zP := kP.lt
                  have HSKc := Lib.hid hHeld.1
                  go_simp
                  refine hK.out _ _ ?_ (fun hHeld2 => ?_)
                  · exact ((hHeld.set HP10.out HGP.out 0 _).set HP10.out HGP.out 1 _).set HP10.out HGP.out 2 _
                  clear hK K hHeld
                  have hHeld := hHeld2
                  clear hHeld2
                  (try simp only [Act.put, List.setIfInBounds_toArray, List.set_cons_zero, List.set_cons_succ])
                  refine reg_take (i := 12) (oi := _) (v := ?_) rfl (by kernel_rfl) (by kernel_rfl) (by kernel_rfl) (fun _ _ _ h => h) (by rfl) ?_ (by assumption) ?_
                  rotate_left
                  · intro w hSw; (try dsimp only at hSw); have d0 : w.cell? ⟨q, 0, none⟩ = some (.slice A1 l1 c1) := (by rw [hSw.1.cell]; rfl); have d1 : w.cell? ⟨q, 1, none⟩ = some (.slice A2 l2 c2) := (by rw [hSw.1.cell]; rfl); have d2 : w.cell? ⟨q, 2, none⟩ = some (.slice A3 l3 c3) := (by rw [hSw.1.cell]; rfl); have x0 := hSw.2.1.k; have x1 := hSw.2.1.n; have x2 := hSw.2.1.d; have x3 := hSw.2.1.b; have x4 := hSw.2.1.s; have x5 := hSw.2.1.p; have zg := hSw.2.2; have zq := hSw.1.lt; go_simp; try with_reducible rfl
                  (try simp only [Act.put, List.setIfInBounds_toArray, List.set_cons_zero, List.set_cons_succ])
                  refine wpAnyH_done (by kernel_rfl) ?_ _
                  refine NoPanic.normal ?_
                  have HSK := Lib.hid (show Blk wx q 41 #[.slice A1 l1 c1, .slice A2 l2 c2, .slice A3 l3 c3] from HSKc.out)
                  clear hHeld y0 y1 y2 f0 f1 f2 zP
                  have hB7 := both_end HBx.out.2 HBx.out.1 kP
                  have kP3 := ((kP.put 0 (.slice B1 x6.now.length e1) rfl).put 1 (.slice B2 x6.sure.length e2) rfl).put 2 (.slice B3 x6.T.length e3) rfl
                  have hL7 := below_set3 (a := .slice B1 x6.now.length e1) (b := .slice B2 x6.sure.length e2) (c := .slice B3 x6.T.length e3) HLx.out (show B ≤ p6 by have := HP10.out; have := HQB.out; omega)
                  have HB7 := Lib.hid hB7
                  have HL7 := Lib.hid hL7
                  have HP7 := Lib.hid kP3
                  skip
                  have HK7 := Lib.hid (show Blk (((wx.setCell ⟨p6, 0, none⟩ (.slice B1 x6.now.length e1)).setCell ⟨p6, 1, none⟩ (.slice B2 x6.sure.length e2)).setCell ⟨p6, 2, none⟩ (.slice B3 x6.T.length e3)) q 41 #[.slice A1 l1 c1, .slice A2 l2 c2, .slice A3 l3 c3] from blk_far (blk_far (blk_far HSK.out 0 _ (by have := HP10.out; omega)) 1 _ (by have := HP10.out; omega)) 2 _ (by have := HP10.out; omega))
                  clear hB7 hL7 kP kP3 HBx HLx P10 HSK
                  generalize ((wx.setCell ⟨p6, 0, none⟩ (.slice B1 x6.now.length e1)).setCell ⟨p6, 1, none⟩ (.slice B2 x6.sure.length e2)).setCell ⟨p6, 2, none⟩ (.slice B3 x6.T.length e3) = w7 at *
                  have y0 : w7.cell? ⟨p6, 0, none⟩ = some (.slice B1 x6.now.length e1) := by rw [HP7.out.cell]; rfl
                  have y1 : w7.cell? ⟨p6, 1, none⟩ = some (.slice B2 x6.sure.length e2) := by rw [HP7.out.cell]; rfl
                  have y2 : w7.cell? ⟨p6, 2, none⟩ = some (.slice B3 x6.T.length e3) := by rw [HP7.out.cell]; rfl
                  have z0 : w7.cell? ⟨q, 0, none⟩ = some (.slice A1 l1 c1) := by rw [HK7.out.cell]; rfl
                  have f0 := HK7.out.frozen 0
                  have z1 : w7.cell? ⟨q, 1, none⟩ = some (.slice A2 l2 c2) := by rw [HK7.out.cell]; rfl
                  have f1 := HK7.out.frozen 1
                  have z2 : w7.cell? ⟨q, 2, none⟩ = some (.slice A3 l3 c3) := by rw [HK7.out.cell]; rfl
                  have f2 := HK7.out.frozen 2
                  have zy := HP7.out.lt
                  have zq := HK7.out.lt
                  go_upto_region 12 with (fail)
                  have hB8 := both_end HB7.out.2 HB7.out.1 HK7.out
                  have hL8 := below_set3 (a := .slice B1 x6.now.length e1) (b := .slice B2 x6.sure.length e2) (c := .slice B3 x6.T.length e3) HL7.out HQB.out
                  have kQ3 := ((HK7.out.put 0 (.slice B1 x6.now.length e1) rfl).put 1 (.slice B2 x6.sure.length e2) rfl).put 2 (.slice B3 x6.T.length e3) rfl
                  have HB8 := Lib.hid hB8
                  have HL8 := Lib.hid hL8
                  have HK8 := Lib.hid kQ3
                  clear y0 y1 y2 z0 z1 z2 f0 f1 f2 zy zq hB8 hL8 kQ3 HB7 HL7 HK7 HP7
                  generalize ((w7.setCell ⟨q, 0, none⟩ (.slice B1 x6.now.length e1)).setCell ⟨q, 1, none⟩ (.slice B2 x6.sure.length e2)).setCell ⟨q, 2, none⟩ (.slice B3 x6.T.length e3) = w8 at *
                  have HF8 := Lib.hid (show RdF w8 (.slice B1 x6.now.length e1) x6.now from by obtain ⟨u1, u2, u3, e, g1, g2, g3⟩ := HB8.out.1; cases e; exact g1)
                  refine wp_region_noPanic ?_
                  refine wp_region_held_drew (S := (fun w' => Below w8.heap.size w8 w')) (by kernel_rfl) ?_ (fun hHeld => ?_)
                  · exact below_drewN (Below.refl _ _) 1
                  generalize w8.drew = wd at *
                  refine reg_take (i := 0) (oi := _) (v := ?_) rfl (by kernel_rfl) (by kernel_rfl) (by kernel_rfl) (fun _ _ _ h => h) (by rfl) ?_ (by assumption) ?_
                  rotate_left
                  · intro w hSw; (try dsimp only at hSw); have kQ := HK8.out.below hSw; have d0 : w.cell? ⟨q, 0, none⟩ = some (.slice B1 x6.now.length e1) := (by rw [kQ.cell]; rfl); have d1 : w.cell? ⟨q, 1, none⟩ = some (.slice B2 x6.sure.length e2) := (by rw [kQ.cell]; rfl); have d2 : w.cell? ⟨q, 2, none⟩ = some (.slice B3 x6.T.length e3) := (by rw [kQ.cell]; rfl); have zq := kQ.lt; go_simp; try with_reducible rfl
                  (try simp only [Act.put, List.setIfInBounds_toArray, List.set_cons_zero, List.set_cons_succ])
                  refine reg_take (i := 1) (oi := _) (v := ?_) rfl (by kernel_rfl) (by kernel_rfl) (by kernel_rfl) (fun _ _ _ h => h) (by rfl) ?_ (by assumption) ?_
                  rotate_left
                  · intro w hSw; (try dsimp only at hSw); have kQ := HK8.out.below hSw; have d0 : w.cell? ⟨q, 0, none⟩ = some (.slice B1 x6.now.length e1) := (by rw [kQ.cell]; rfl); have d1 : w.cell? ⟨q, 1, none⟩ = some (.slice B2 x6.sure.length e2) := (by rw [kQ.cell]; rfl); have d2 : w.cell? ⟨q, 2, none⟩ = some (.slice B3 x6.T.length e3) := (by rw [kQ.cell]; rfl); have zq := kQ.lt; go_simp; try with_reducible rfl
                  (try simp only [Act.put, List.setIfInBounds_toArray, List.set_cons_zero, List.set_cons_succ])
                  refine reg_take (i := 2) (oi := _) (v := ?_) rfl (by kernel_rfl) (by kernel_rfl) (by kernel_rfl) (fun _ _ _ h => h) (by rfl) ?_ (by assumption) ?_
                  rotate_left
                  · intro w hSw; (try dsimp only at hSw); have kQ := HK8.out.below hSw; have d0 : w.cell? ⟨q, 0, none⟩ = some (.slice B1 x6.now.length e1) := (by rw [kQ.cell]; rfl); have d1 : w.cell? ⟨q, 1, none⟩ = some (.slice B2 x6.sure.length e2) := (by rw [kQ.cell]; rfl); have d2 : w.cell? ⟨q, 2, none⟩ = some (.slice B3 x6.T.length e3) := (by rw [kQ.cell]; rfl); have zq := kQ.lt; go_simp; try with_reducible rfl
                  (try simp only [Act.put, List.setIfInBounds_toArray, List.set_cons_zero, List.set_cons_succ])
                  refine reg_take (i := 3) (oi := _) (v := ?_) rfl (by kernel_rfl) (by kernel_rfl) (by kernel_rfl) (fun _ _ _ h => h) (by rfl) ?_ (by assumption) ?_
                  rotate_left
                  · intro w hSw; (try dsimp only at hSw); have kQ := HK8.out.below hSw; have d0 : w.cell? ⟨q, 0, none⟩ = some (.slice B1 x6.now.length e1) := (by rw [kQ.cell]; rfl); have d1 : w.cell? ⟨q, 1, none⟩ = some (.slice B2 x6.sure.length e2) := (by rw [kQ.cell]; rfl); have d2 : w.cell? ⟨q, 2, none⟩ = some (.slice B3 x6.T.length e3) := (by rw [kQ.cell]; rfl); have zq := kQ.lt; go_simp; try with_reducible rfl
                  (try simp only [Act.put, List.setIfInBounds_toArray, List.set_cons_zero, List.set_cons_succ])
                  refine reg_take (i := 4) (oi := _) (v := ?_) rfl (by kernel_rfl) (by kernel_rfl) (by kernel_rfl) (fun _ _ _ h => h) (by rfl) ?_ (by assumption) ?_
                  rotate_left
                  · intro w hSw; (try dsimp only at hSw); have kQ := HK8.out.below hSw; have d0 : w.cell? ⟨q, 0, none⟩ = some (.slice B1 x6.now.length e1) := (by rw [kQ.cell]; rfl); have d1 : w.cell? ⟨q, 1, none⟩ = some (.slice B2 x6.sure.length e2) := (by rw [kQ.cell]; rfl); have d2 : w.cell? ⟨q, 2, none⟩ = some (.slice B3 x6.T.length e3) := (by rw [kQ.cell]; rfl); have zq := kQ.lt; go_simp; try with_reducible rfl
                  (try simp only [Act.put, List.setIfInBounds_toArray, List.set_cons_zero, List.set_cons_succ])
                  refine reg_take (i := 5) (oi := _) (v := ?_) rfl (by kernel_rfl) (by kernel_rfl) (by kernel_rfl) (fun _ _ _ h => h) (by rfl) ?_ (by assumption) ?_
                  rotate_left
                  · intro w hSw; (try dsimp only at hSw); have kQ := HK8.out.below hSw; have d0 : w.cell? ⟨q, 0, none⟩ = some (.slice B1 x6.now.length e1) := (by rw [kQ.cell]; rfl); have d1 : w.cell? ⟨q, 1, none⟩ = some (.slice B2 x6.sure.length e2) := (by rw [kQ.cell]; rfl); have d2 : w.cell? ⟨q, 2, none⟩ = some (.slice B3 x6.T.length e3) := (by rw [kQ.cell]; rfl); have zq := kQ.lt; go_simp; try with_reducible rfl
                  (try simp only [Act.put, List.setIfInBounds_toArray, List.set_cons_zero, List.set_cons_succ])
                  refine wpAnyH_ready (rs := [6]) (by kernel_rfl) (by simp) ?_
                  refine reg_each (o := _) rfl (fun K hK => ?_) ?_
                  · skip
                    go_simp
                    refine (same_walk B d x6 _ _ (HB8.out.2.below hHeld) (HF8.out.kept (KeptY.below hHeld))).mono ?_
                    rintro r w10 ⟨rfl, hb10⟩
                    have BE10 := Lib.hid (below_trans hHeld hb10)
                    clear hb10
                    go_wp2_with (fail)
                    refine hK.out _ _ ?_ (fun hHeld2 => ?_)
                    · exact BE10.out
                    clear hK K hHeld
                    have hHeld := hHeld2
                    clear hHeld2
                    (try simp only [Act.put, List.setIfInBounds_toArray, List.set_cons_zero, List.set_cons_succ])
                    refine reg_take (i := 7) (oi := _) (v := ?_) rfl (by kernel_rfl) (by kernel_rfl) (by kernel_rfl) (fun _ _ _ h => h) (by rfl) ?_ (by assumption) ?_
                    rotate_left
                    · intro w hSw; (try dsimp only at hSw); have kQ := HK8.out.below hSw; have d0 : w.cell? ⟨q, 0, none⟩ = some (.slice B1 x6.now.length e1) := (by rw [kQ.cell]; rfl); have d1 : w.cell? ⟨q, 1, none⟩ = some (.slice B2 x6.sure.length e2) := (by rw [kQ.cell]; rfl); have d2 : w.cell? ⟨q, 2, none⟩ = some (.slice B3 x6.T.length e3) := (by rw [kQ.cell]; rfl); have zq := kQ.lt; go_simp; try with_reducible rfl
                    (try simp only [Act.put, List.setIfInBounds_toArray, List.set_cons_zero, List.set_cons_succ])
                    refine reg_take (i := 8) (oi := _) (v := ?_) rfl (by kernel_rfl) (by kernel_rfl) (by kernel_rfl) (fun _ _ _ h => h) (by rfl) ?_ (by assumption) ?_
                    rotate_left
                    · intro w hSw; (try dsimp only at hSw); have kQ := HK8.out.below hSw; have d0 : w.cell? ⟨q, 0, none⟩ = some (.slice B1 x6.now.length e1) := (by rw [kQ.cell]; rfl); have d1 : w.cell? ⟨q, 1, none⟩ = some (.slice B2 x6.sure.length e2) := (by rw [kQ.cell]; rfl); have d2 : w.cell? ⟨q, 2, none⟩ = some (.slice B3 x6.T.length e3) := (by rw [kQ.cell]; rfl); have zq := kQ.lt; go_simp; try with_reducible rfl
                    (try simp only [Act.put, List.setIfInBounds_toArray, List.set_cons_zero, List.set_cons_succ])
                    refine reg_take (i := 9) (oi := _) (v := ?_) rfl (by kernel_rfl) (by kernel_rfl) (by kernel_rfl) (fun _ _ _ h => h) (by rfl) ?_ (by assumption) ?_
                    rotate_left
                    · intro w hSw; (try dsimp only at hSw); have kQ := HK8.out.below hSw; have d0 : w.cell? ⟨q, 0, none⟩ = some (.slice B1 x6.now.length e1) := (by rw [kQ.cell]; rfl); have d1 : w.cell? ⟨q, 1, none⟩ = some (.slice B2 x6.sure.length e2) := (by rw [kQ.cell]; rfl); have d2 : w.cell? ⟨q, 2, none⟩ = some (.slice B3 x6.T.length e3) := (by rw [kQ.cell]; rfl); have zq := kQ.lt; go_simp; try with_reducible rfl
                    (try simp only [Act.put, List.setIfInBounds_toArray, List.set_cons_zero, List.set_cons_succ])
                    refine reg_take (i := 10) (oi := _) (v := ?_) rfl (by kernel_rfl) (by kernel_rfl) (by kernel_rfl) (fun _ _ _ h => h) (by rfl) ?_ (by assumption) ?_
                    rotate_left
                    · intro w hSw; (try dsimp only at hSw); have kQ := HK8.out.below hSw; have d0 : w.cell? ⟨q, 0, none⟩ = some (.slice B1 x6.now.length e1) := (by rw [kQ.cell]; rfl); have d1 : w.cell? ⟨q, 1, none⟩ = some (.slice B2 x6.sure.length e2) := (by rw [kQ.cell]; rfl); have d2 : w.cell? ⟨q, 2, none⟩ = some (.slice B3 x6.T.length e3) := (by rw [kQ.cell]; rfl); have zq := kQ.lt; go_simp; try with_reducible rfl
                    (try simp only [Act.put, List.setIfInBounds_toArray, List.set_cons_zero, List.set_cons_succ])
                    refine reg_take (i := 12) (oi := _) (v := ?_) rfl (by kernel_rfl) (by kernel_rfl) (by kernel_rfl) (fun _ _ _ h => h) (by rfl) ?_ (by assumption) ?_
                    rotate_left
                    · intro w hSw; (try dsimp only at hSw); have kQ := HK8.out.below hSw; have d0 : w.cell? ⟨q, 0, none⟩ = some (.slice B1 x6.now.length e1) := (by rw [kQ.cell]; rfl); have d1 : w.cell? ⟨q, 1, none⟩ = some (.slice B2 x6.sure.length e2) := (by rw [kQ.cell]; rfl); have d2 : w.cell? ⟨q, 2, none⟩ = some (.slice B3 x6.T.length e3) := (by rw [kQ.cell]; rfl); have zq := kQ.lt; go_simp; try with_reducible rfl
                    (try simp only [Act.put, List.setIfInBounds_toArray, List.set_cons_zero, List.set_cons_succ])
                    refine reg_take (i := 13) (oi := _) (v := ?_) rfl (by kernel_rfl) (by kernel_rfl) (by kernel_rfl) (fun _ _ _ h => h) (by rfl) ?_ (by assumption) ?_
                    rotate_left
                    · intro w hSw; (try dsimp only at hSw); have kQ := HK8.out.below hSw; have d0 : w.cell? ⟨q, 0, none⟩ = some (.slice B1 x6.now.length e1) := (by rw [kQ.cell]; rfl); have d1 : w.cell? ⟨q, 1, none⟩ = some (.slice B2 x6.sure.length e2) := (by rw [kQ.cell]; rfl); have d2 : w.cell? ⟨q, 2, none⟩ = some (.slice B3 x6.T.length e3) := (by rw [kQ.cell]; rfl); have zq := kQ.lt; go_simp; try with_reducible rfl
                    (try simp only [Act.put, List.setIfInBounds_toArray, List.set_cons_zero, List.set_cons_succ])
                    refine reg_take (i := 14) (oi := _) (v := ?_) rfl (by kernel_rfl) (by kernel_rfl) (by kernel_rfl) (fun _ _ _ h => h) (by rfl) ?_ (by assumption) ?_
                    rotate_left
                    · intro w hSw; (try dsimp only at hSw); have kQ := HK8.out.below hSw; have d0 : w.cell? ⟨q, 0, none⟩ = some (.slice B1 x6.now.length e1) := (by rw [kQ.cell]; rfl); have d1 : w.cell? ⟨q, 1, none⟩ = some (.slice B2 x6.sure.length e2) := (by rw [kQ.cell]; rfl); have d2 : w.cell? ⟨q, 2, none⟩ = some (.slice B3 x6.T.length e3) := (by rw [kQ.cell]; rfl); have zq := kQ.lt; go_simp; try with_reducible rfl
                    (try simp only [Act.put, List.setIfInBounds_toArray, List.set_cons_zero, List.set_cons_succ])
                    refine wpAnyH_ready (rs := [11]) (by kernel_rfl) (by simp) ?_
                    refine reg_each (o := _) rfl (fun K hK => ?_) ?_
                    · skip
                      go_simp
                      refine (pending_walk B d x6.now x6.sure x6.T _ (HB8.out.2.below hHeld).1).mono ?_
                      rintro r w11 ⟨rfl, rfl⟩
                      have BE11 := Lib.hid hHeld
                      go_wp2_with (fail)
                      refine hK.out _ _ ?_ (fun hHeld2 => ?_)
                      · exact BE11.out
                      clear hK K hHeld
                      have hHeld := hHeld2
                      clear hHeld2
                      (try simp only [Act.put, List.setIfInBounds_toArray, List.set_cons_zero, List.set_cons_succ])
                      refine reg_take (i := 15) (oi := _) (v := ?_) rfl (by kernel_rfl) (by kernel_rfl) (by kernel_rfl) (fun _ _ _ h => h) (by rfl) ?_ (by assumption) ?_
                      rotate_left
                      · intro w hSw; (try dsimp only at hSw); have kQ := HK8.out.below hSw; have d0 : w.cell? ⟨q, 0, none⟩ = some (.slice B1 x6.now.length e1) := (by rw [kQ.cell]; rfl); have d1 : w.cell? ⟨q, 1, none⟩ = some (.slice B2 x6.sure.length e2) := (by rw [kQ.cell]; rfl); have d2 : w.cell? ⟨q, 2, none⟩ = some (.slice B3 x6.T.length e3) := (by rw [kQ.cell]; rfl); have zq := kQ.lt; go_simp; try with_reducible rfl
                      (try simp only [Act.put, List.setIfInBounds_toArray, List.set_cons_zero, List.set_cons_succ])
                      refine reg_take (i := 16) (oi := _) (v := ?_) rfl (by kernel_rfl) (by kernel_rfl) (by kernel_rfl) (fun _ _ _ h => h) (by rfl) ?_ (by assumption) ?_
                      rotate_left
                      · intro w hSw; (try dsimp only at hSw); have kQ := HK8.out.below hSw; have d0 : w.cell? ⟨q, 0, none⟩ = some (.slice B1 x6.now.length e1) := (by rw [kQ.cell]; rfl); have d1 : w.cell? ⟨q, 1, none⟩ = some (.slice B2 x6.sure.length e2) := (by rw [kQ.cell]; rfl); have d2 : w.cell? ⟨q, 2, none⟩ = some (.slice B3 x6.T.length e3) := (by rw [kQ.cell]; rfl); have zq := kQ.lt; go_simp; try with_reducible rfl
                      (try simp only [Act.put, List.setIfInBounds_toArray, List.set_cons_zero, List.set_cons_succ])
                      refine wpAnyH_done (by kernel_rfl) ?_ _
                      refine NoPanic.normal ?_
                      clear hHeld BE10
                      have HL11 := Lib.hid (HL8.out.trans (BE11.out.mono HB8.out.2.1.lo.2))
                      have HA11 := Lib.hid ((HA0.out.below HL11.out hgB))
                      have x2 := HA11.out.d
                      have zg : g < w11.heap.size := Nat.lt_of_lt_of_le hgB (HB8.out.2.below BE11.out).1.lo.2
                      have RW := read_walk B d x6.now x6.sure x6.T a.dst w11 (HB8.out.2.below BE11.out).1 (fun bs e => (HB8.out.2.2.now.look e).2)
                      go_upto_region 14 with (fail)
                      go_wp2_with (fail)
                      refine Calls.mono RW ?_
                      rintro y w12 ⟨v12, rfl, _, hb12⟩
                      have BE12 := Lib.hid (below_trans BE11.out hb12)
                      clear RW hb12 x2 zg BE11 HA11 HL11
                      have HL12 := Lib.hid (HL8.out.trans (BE12.out.mono HB8.out.2.1.lo.2))
                      have HA12 := Lib.hid (HA0.out.below HL12.out hgB)
                      have x2 := HA12.out.d
                      have zg : g < w12.heap.size := Nat.lt_of_lt_of_le hgB (HB8.out.2.below BE12.out).1.lo.2
                      obtain ⟨c, hc⟩ : ∃ c, checkN x6.now a.dst.data.toList = c := ⟨_, rfl⟩
                      have HC := Lib.hid hc
                      rw [hc]
                      have NW := docnamed_walk a.dst HAC.out.d w12
                      clear hc
                      go_upto_region 16 with (fail)
                      go_wp2_with (fail)
                      refine Calls.mono NW ?_
                      rintro y w13 ⟨rfl, hb13⟩
                      have BE13 := Lib.hid (below_trans BE12.out hb13)
                      clear NW hb13 x2 zg BE12 HA12 HL12
                      have HL13 := Lib.hid (HL8.out.trans (BE13.out.mono HB8.out.2.1.lo.2))
                      have HG13 := Lib.hid (show ErrType w13 from (HL13.out.cell (p := ⟨0, 0, none⟩) HGB.out).trans HG1.out)
                      cases hnm : namedF a.dst.data.toList with
                      | false =>
                        obtain rfl : c = 11 := by have := HC.out; unfold checkN at this; rw [hnm] at this; exact this.symm
                        have NM := num_errI 11 w13 HG13.out
                        go_upto_region 20 with (fail)
                        go_wp2_with (fail)
                        refine Calls.mono NM ?_
                        rintro y w15 ⟨rfl, hb15⟩
                        have BE15 := Lib.hid (below_trans BE13.out hb15)
                        have HNX := Lib.hid (show LoX B d q w1 w15 from ⟨x6, _, _, _, HK8.out.below BE15.out, HB8.out.below BE15.out, HL8.out.trans (BE15.out.mono HB8.out.2.1.lo.2)⟩)
                        clear NM hb15
                        go_wp2_with (fail)
                        go_roundw
                        case rel => exact ⟨i + 1, by go_num, by omega, HNX.out⟩
                        case measure => simp [intOf]; omega
                      | true =>
                        go_upto_region 18 with (fail)
                        refine wp_region_noPanic ?_
                        refine wp_region_held_drew (S := (fun w' => Below w13.heap.size w13 w')) (by kernel_rfl) ?_ (fun hHeld => ?_)
                        · exact below_drewN (Below.refl _ _) 1
                        generalize w13.drew = wd at *
                        refine reg_take (i := 0) (oi := _) (v := ?_) rfl (by kernel_rfl) (by kernel_rfl) (by kernel_rfl) (fun _ _ _ h => h) (by rfl) ?_ (by assumption) ?_
                        rotate_left
                        · intro w hSw; (try dsimp only at hSw); have kQ := HK8.out.below (below_trans BE13.out hSw); have d0 : w.cell? ⟨q, 0, none⟩ = some (.slice B1 x6.now.length e1) := (by rw [kQ.cell]; rfl); have d1 : w.cell? ⟨q, 1, none⟩ = some (.slice B2 x6.sure.length e2) := (by rw [kQ.cell]; rfl); have d2 : w.cell? ⟨q, 2, none⟩ = some (.slice B3 x6.T.length e3) := (by rw [kQ.cell]; rfl); have zq := kQ.lt; have x2 := (HA0.out.below (HL13.out.trans (hSw.mono (HB8.out.2.below BE13.out).1.lo.2)) hgB).d; have zg : g < w.heap.size := Nat.lt_of_lt_of_le hgB (Nat.le_trans (HB8.out.2.below BE13.out).1.lo.2 hSw.size); go_simp; try with_reducible rfl
                        (try simp only [Act.put, List.setIfInBounds_toArray, List.set_cons_zero, List.set_cons_succ])
                        refine reg_take (i := 1) (oi := _) (v := ?_) rfl (by kernel_rfl) (by kernel_rfl) (by kernel_rfl) (fun _ _ _ h => h) (by rfl) ?_ (by assumption) ?_
                        rotate_left
                        · intro w hSw; (try dsimp only at hSw); have kQ := HK8.out.below (below_trans BE13.out hSw); have d0 : w.cell? ⟨q, 0, none⟩ = some (.slice B1 x6.now.length e1) := (by rw [kQ.cell]; rfl); have d1 : w.cell? ⟨q, 1, none⟩ = some (.slice B2 x6.sure.length e2) := (by rw [kQ.cell]; rfl); have d2 : w.cell? ⟨q, 2, none⟩ = some (.slice B3 x6.T.length e3) := (by rw [kQ.cell]; rfl); have zq := kQ.lt; have x2 := (HA0.out.below (HL13.out.trans (hSw.mono (HB8.out.2.below BE13.out).1.lo.2)) hgB).d; have zg : g < w.heap.size := Nat.lt_of_lt_of_le hgB (Nat.le_trans (HB8.out.2.below BE13.out).1.lo.2 hSw.size); go_simp; try with_reducible rfl
                        (try simp only [Act.put, List.setIfInBounds_toArray, List.set_cons_zero, List.set_cons_succ])
                        refine reg_take (i := 2) (oi := _) (v := ?_) rfl (by kernel_rfl) (by kernel_rfl) (by kernel_rfl) (fun _ _ _ h => h) (by rfl) ?_ (by assumption) ?_
                        rotate_left
                        · intro w hSw; (try dsimp only at hSw); have kQ := HK8.out.below (below_trans BE13.out hSw); have d0 : w.cell? ⟨q, 0, none⟩ = some (.slice B1 x6.now.length e1) := (by rw [kQ.cell]; rfl); have d1 : w.cell? ⟨q, 1, none⟩ = some (.slice B2 x6.sure.length e2) := (by rw [kQ.cell]; rfl); have d2 : w.cell? ⟨q, 2, none⟩ = some (.slice B3 x6.T.length e3) := (by rw [kQ.cell]; rfl); have zq := kQ.lt; have x2 := (HA0.out.below (HL13.out.trans (hSw.mono (HB8.out.2.below BE13.out).1.lo.2)) hgB).d; have zg : g < w.heap.size := Nat.lt_of_lt_of_le hgB (Nat.le_trans (HB8.out.2.below BE13.out).1.lo.2 hSw.size); go_simp; try with_reducible rfl
                        (try simp only [Act.put, List.setIfInBounds_toArray, List.set_cons_zero, List.set_cons_succ])
                        refine reg_take (i := 3) (oi := _) (v := ?_) rfl (by kernel_rfl) (by kernel_rfl) (by kernel_rfl) (fun _ _ _ h => h) (by rfl) ?_ (by assumption) ?_
                        rotate_left
                        · intro w hSw; (try dsimp only at hSw); have kQ := HK8.out.below (below_trans BE13.out hSw); have d0 : w.cell? ⟨q, 0, none⟩ = some (.slice B1 x6.now.length e1) := (by rw [kQ.cell]; rfl); have d1 : w.cell? ⟨q, 1, none⟩ = some (.slice B2 x6.sure.length e2) := (by rw [kQ.cell]; rfl); have d2 : w.cell? ⟨q, 2, none⟩ = some (.slice B3 x6.T.length e3) := (by rw [kQ.cell]; rfl); have zq := kQ.lt; have x2 := (HA0.out.below (HL13.out.trans (hSw.mono (HB8.out.2.below BE13.out).1.lo.2)) hgB).d; have zg : g < w.heap.size := Nat.lt_of_lt_of_le hgB (Nat.le_trans (HB8.out.2.below BE13.out).1.lo.2 hSw.size); go_simp; try with_reducible rfl
                        (try simp only [Act.put, List.setIfInBounds_toArray, List.set_cons_zero, List.set_cons_succ])
                        refine reg_take (i := 4) (oi := _) (v := ?_) rfl (by kernel_rfl) (by kernel_rfl) (by kernel_rfl) (fun _ _ _ h => h) (by rfl) ?_ (by assumption) ?_
                        rotate_left
                        · intro w hSw; (try dsimp only at hSw); have kQ := HK8.out.below (below_trans BE13.out hSw); have d0 : w.cell? ⟨q, 0, none⟩ = some (.slice B1 x6.now.length e1) := (by rw [kQ.cell]; rfl); have d1 : w.cell? ⟨q, 1, none⟩ = some (.slice B2 x6.sure.length e2) := (by rw [kQ.cell]; rfl); have d2 : w.cell? ⟨q, 2, none⟩ = some (.slice B3 x6.T.length e3) := (by rw [kQ.cell]; rfl); have zq := kQ.lt; have x2 := (HA0.out.below (HL13.out.trans (hSw.mono (HB8.out.2.below BE13.out).1.lo.2)) hgB).d; have zg : g < w.heap.size := Nat.lt_of_lt_of_le hgB (Nat.le_trans (HB8.out.2.below BE13.out).1.lo.2 hSw.size); go_simp; try with_reducible rfl
                        (try simp only [Act.put, List.setIfInBounds_toArray, List.set_cons_zero, List.set_cons_succ])
                        refine reg_take (i := 5) (oi := _) (v := ?_) rfl (by kernel_rfl) (by kernel_rfl) (by kernel_rfl) (fun _ _ _ h => h) (by rfl) ?_ (by assumption) ?_
                        rotate_left
                        · intro w hSw; (try dsimp only at hSw); have kQ := HK8.out.below (below_trans BE13.out hSw); have d0 : w.cell? ⟨q, 0, none⟩ = some (.slice B1 x6.now.length e1) := (by rw [kQ.cell]; rfl); have d1 : w.cell? ⟨q, 1, none⟩ = some (.slice B2 x6.sure.length e2) := (by rw [kQ.cell]; rfl); have d2 : w.cell? ⟨q, 2, none⟩ = some (.slice B3 x6.T.length e3) := (by rw [kQ.cell]; rfl); have zq := kQ.lt; have x2 := (HA0.out.below (HL13.out.trans (hSw.mono (HB8.out.2.below BE13.out).1.lo.2)) hgB).d; have zg : g < w.heap.size := Nat.lt_of_lt_of_le hgB (Nat.le_trans (HB8.out.2.below BE13.out).1.lo.2 hSw.size); go_simp; try with_reducible rfl
                        (try simp only [Act.put, List.setIfInBounds_toArray, List.set_cons_zero, List.set_cons_succ])
                        refine reg_take (i := 6) (oi := _) (v := ?_) rfl (by kernel_rfl) (by kernel_rfl) (by kernel_rfl) (fun _ _ _ h => h) (by rfl) ?_ (by assumption) ?_
                        rotate_left
                        · intro w hSw; (try dsimp only at hSw); have kQ := HK8.out.below (below_trans BE13.out hSw); have d0 : w.cell? ⟨q, 0, none⟩ = some (.slice B1 x6.now.length e1) := (by rw [kQ.cell]; rfl); have d1 : w.cell? ⟨q, 1, none⟩ = some (.slice B2 x6.sure.length e2) := (by rw [kQ.cell]; rfl); have d2 : w.cell? ⟨q, 2, none⟩ = some (.slice B3 x6.T.length e3) := (by rw [kQ.cell]; rfl); have zq := kQ.lt; have x2 := (HA0.out.below (HL13.out.trans (hSw.mono (HB8.out.2.below BE13.out).1.lo.2)) hgB).d; have zg : g < w.heap.size := Nat.lt_of_lt_of_le hgB (Nat.le_trans (HB8.out.2.below BE13.out).1.lo.2 hSw.size); go_simp; try with_reducible rfl
                        (try simp only [Act.put, List.setIfInBounds_toArray, List.set_cons_zero, List.set_cons_succ])
                        refine wpAnyH_ready (rs := [7]) (by kernel_rfl) (by simp) ?_
                        refine reg_each (o := _) rfl (fun K hK => ?_) ?_
                        · skip
                          go_simp
                          refine (find_walk _ x6.now a.dst.data.toList _ (HF8.out.kept (KeptY.below (below_trans BE13.out hHeld))) HB8.out.2.1.an.2).mono ?_
                          rintro r w14 ⟨rr, rfl, rfl, hrr⟩
                          have BE14 := Lib.hid (below_trans BE13.out hHeld)
                          have HRR := Lib.hid hrr
                          have HHE := Lib.hid hHeld
                          clear hrr
                          go_wp2_with (fail)
                          refine hK.out _ _ ?_ (fun hHeld2 => ?_)
                          · exact HHE.out
                          clear hK K hHeld
                          have hHeld := hHeld2
                          clear hHeld2
                          (try simp only [Act.put, List.setIfInBounds_toArray, List.set_cons_zero, List.set_cons_succ])
                          refine reg_take (i := 8) (oi := _) (v := ?_) rfl (by kernel_rfl) (by kernel_rfl) (by kernel_rfl) (fun _ _ _ h => h) (by rfl) ?_ (by assumption) ?_
                          rotate_left
                          · intro w hSw; (try dsimp only at hSw); have kQ := HK8.out.below (below_trans BE13.out hSw); have d0 : w.cell? ⟨q, 0, none⟩ = some (.slice B1 x6.now.length e1) := (by rw [kQ.cell]; rfl); have d1 : w.cell? ⟨q, 1, none⟩ = some (.slice B2 x6.sure.length e2) := (by rw [kQ.cell]; rfl); have d2 : w.cell? ⟨q, 2, none⟩ = some (.slice B3 x6.T.length e3) := (by rw [kQ.cell]; rfl); have zq := kQ.lt; have x2 := (HA0.out.below (HL13.out.trans (hSw.mono (HB8.out.2.below BE13.out).1.lo.2)) hgB).d; have zg : g < w.heap.size := Nat.lt_of_lt_of_le hgB (Nat.le_trans (HB8.out.2.below BE13.out).1.lo.2 hSw.size); go_simp; try with_reducible rfl
                          (try simp only [Act.put, List.setIfInBounds_toArray, List.set_cons_zero, List.set_cons_succ])
                          refine wpAnyH_done (by kernel_rfl) ?_ _
                          refine NoPanic.normal ?_
                          clear hHeld HHE
                          have HG14 := Lib.hid (show ErrType w14 from ((HL8.out.trans (BE14.out.mono HB8.out.2.1.lo.2)).cell (p := ⟨0, 0, none⟩) HGB.out).trans HG1.out)
                          rcases HRR.out with ⟨rfl, hln⟩ | ⟨kk, ff, rfl, _, _, hls⟩
                          · obtain rfl : c = 8 := by have := HC.out; unfold checkN at this; rw [if_pos hnm, hln] at this; exact this.symm
                            clear hnm hln HC HRR
                            have NM := num_errI 8 w14 HG14.out
                            go_upto_region 20 with (fail)
                            go_wp2_with (fail)
                            refine Calls.mono NM ?_
                            rintro y w15 ⟨rfl, hb15⟩
                            have BE15 := Lib.hid (below_trans BE14.out hb15)
                            have HNX := Lib.hid (show LoX B d q w1 w15 from ⟨x6, _, _, _, HK8.out.below BE15.out, HB8.out.below BE15.out, HL8.out.trans (BE15.out.mono HB8.out.2.1.lo.2)⟩)
                            clear NM hb15
                            go_wp2_with (fail)
                            go_roundw
                            case rel => exact ⟨i + 1, by go_num, by omega, HNX.out⟩
                            case measure => simp [intOf]; omega
                          · obtain rfl : c = 0 := by have := HC.out; unfold checkN at this; rw [if_pos hnm, hls] at this; exact this.symm
                            have kk0 : (0 : Int) ≤ kk := by omega
                            clear hnm hls HC HRR
                            have NM := num_errI 0 w14 HG14.out
                            go_upto_region 20 with (fail)
                            go_wp2_with (fail)
                            refine Calls.mono NM ?_
                            rintro y w15 ⟨rfl, hb15⟩
                            have BE15 := Lib.hid (below_trans BE14.out hb15)
                            have HNX := Lib.hid (show LoX B d q w1 w15 from ⟨x6, _, _, _, HK8.out.below BE15.out, HB8.out.below BE15.out, HL8.out.trans (BE15.out.mono HB8.out.2.1.lo.2)⟩)
                            clear NM hb15
                            go_wp2_with (fail)
                            go_roundw
                            case rel => exact ⟨i + 1, by go_num, by omega, HNX.out⟩
                            case measure => simp [intOf]; omega
                        exact AllReadyH.nil
                    exact AllReadyH.nil
                  exact AllReadyH.nil
                exact AllReadyH.nil
              exact AllReadyH.nil
            refine reg_each (o := _) rfl (fun K hK => ?_) ?_
            · skip
              go_simp
              refine hK.out _ _ ?_ (fun hHeld2 => ?_)
              · exact hHeld.of (Fr.below HBd.out.2.1.lo.2 ((Below.refl wd.heap.size wd).alloc (Nat.le_refl _) (.cells #[.slice none 0 0, .slice none 0 0, .slice none 0 0] 41))) hgB
              clear hK K hHeld
              have hHeld := hHeld2
              clear hHeld2
              (try simp only [Act.put, List.setIfInBounds_toArray, List.set_cons_zero, List.set_cons_succ])
              have hba := ((Below.refl wd.heap.size wd).alloc (Nat.le_refl _) (.cells #[.slice none 0 0, .slice none 0 0, .slice none 0 0] 41))
              have P10 := Lib.hid (Blk.new wd 41 #[.slice none 0 0, .slice none 0 0, .slice none 0 0])
              have HP10 := Lib.hid (show q < wd.heap.size from HQL_wd.out)
              have HBy := Lib.hid (HBd.out.below hba)
              have HLy := Lib.hid (HLd.out.trans (hba.mono HBd.out.2.1.lo.2))
              have HGy := Lib.hid (HGd.out.below hba)
              clear hba HBd HLd
              generalize wd.alloc (Obj.cells #[.slice none 0 0, .slice none 0 0, .slice none 0 0] 41) = wy at *
              generalize wd.heap.size = p6 at *
              have HGP := Lib.hid (show g < p6 by have := HP10.out; have := HQB.out; omega)
              refine wpAnyH_ready (rs := [6]) (by kernel_rfl) (by simp) ?_
              refine reg_each (o := _) rfl (fun K hK => ?_) ?_
              · skip
                go_simp
                refine (TC.out _ HBy.out HGy.out).mono ?_
                rintro r w6 ⟨v6, x6, rfl, hbo, hF6⟩
                obtain ⟨⟨u1, u2, u3, eu, g1, g2, g3⟩, hdk⟩ := hbo
                subst eu
                obtain ⟨B1, e1, rfl⟩ := g1.form
                obtain ⟨B2, e2, rfl⟩ := g2.form
                obtain ⟨B3, e3, rfl⟩ := g3.form
                have HB6 := Lib.hid (show Both B d w6 (.agg #[.slice B1 x6.now.length e1, .slice B2 x6.sure.length e2, .slice B3 x6.T.length e3]) x6 from ⟨⟨_, _, _, rfl, g1, g2, g3⟩, hdk⟩)
                have HF6 := Lib.hid hF6
                clear hF6 g1 g2 g3 hdk
                go_wp2_with (fail)
                refine hK.out _ _ ?_ (fun hHeld2 => ?_)
                · exact hHeld.of HF6.out hgB
                clear hK K hHeld
                have hHeld := hHeld2
                clear hHeld2
                (try simp only [Act.put, List.setIfInBounds_toArray, List.set_cons_zero, List.set_cons_succ])
                have HL6 := Lib.hid (HLy.out.trans HF6.out.1)
                have P10 := Lib.hid (blk_keptY P10.out HF6.out.2 (by decide) (by decide))
                clear HF6 HBy HLy HGy TC
                refine reg_take (i := 7) (oi := _) (v := ?_) rfl (by kernel_rfl) (by kernel_rfl) (by kernel_rfl) (fun _ _ _ h => h) (by rfl) ?_ (by assumption) ?_
                rotate_left
                · intro w hSw; (try dsimp only at hSw); have d0 : w.cell? ⟨q, 0, none⟩ = some (.slice A1 l1 c1) := (by rw [hSw.1.cell]; rfl); have d1 : w.cell? ⟨q, 1, none⟩ = some (.slice A2 l2 c2) := (by rw [hSw.1.cell]; rfl); have d2 : w.cell? ⟨q, 2, none⟩ = some (.slice A3 l3 c3) := (by rw [hSw.1.cell]; rfl); have x0 := hSw.2.1.k; have x1 := hSw.2.1.n; have x2 := hSw.2.1.d; have x3 := hSw.2.1.b; have x4 := hSw.2.1.s; have x5 := hSw.2.1.p; have zg := hSw.2.2; have zq := hSw.1.lt; go_simp; try with_reducible rfl
                (try simp only [Act.put, List.setIfInBounds_toArray, List.set_cons_zero, List.set_cons_succ])
                refine reg_take (i := 8) (oi := _) (v := ?_) rfl (by kernel_rfl) (by kernel_rfl) (by kernel_rfl) (fun _ _ _ h => h) (by rfl) ?_ (by assumption) ?_
                rotate_left
                · intro w hSw; (try dsimp only at hSw); have d0 : w.cell? ⟨q, 0, none⟩ = some (.slice A1 l1 c1) := (by rw [hSw.1.cell]; rfl); have d1 : w.cell? ⟨q, 1, none⟩ = some (.slice A2 l2 c2) := (by rw [hSw.1.cell]; rfl); have d2 : w.cell? ⟨q, 2, none⟩ = some (.slice A3 l3 c3) := (by rw [hSw.1.cell]; rfl); have x0 := hSw.2.1.k; have x1 := hSw.2.1.n; have x2 := hSw.2.1.d; have x3 := hSw.2.1.b; have x4 := hSw.2.1.s; have x5 := hSw.2.1.p; have zg := hSw.2.2; have zq := hSw.1.lt; go_simp; try with_reducible rfl
                (try simp only [Act.put, List.setIfInBounds_toArray, List.set_cons_zero, List.set_cons_succ])
                refine reg_take (i := 9) (oi := _) (v := ?_) rfl (by kernel_rfl) (by kernel_rfl) (by kernel_rfl) (fun _ _ _ h => h) (by rfl) ?_ (by assumption) ?_
                rotate_left
                · intro w hSw; (try dsimp only at hSw); have d0 : w.cell? ⟨q, 0, none⟩ = some (.slice A1 l1 c1) := (by rw [hSw.1.cell]; rfl); have d1 : w.cell? ⟨q, 1, none⟩ = some (.slice A2 l2 c2) := (by rw [hSw.1.cell]; rfl); have d2 : w.cell? ⟨q, 2, none⟩ = some (.slice A3 l3 c3) := (by rw [hSw.1.cell]; rfl); have x0 := hSw.2.1.k; have x1 := hSw.2.1.n; have x2 := hSw.2.1.d; have x3 := hSw.2.1.b; have x4 := hSw.2.1.s; have x5 := hSw.2.1.p; have zg := hSw.2.2; have zq := hSw.1.lt; go_simp; try with_reducible rfl
                (try simp only [Act.put, List.setIfInBounds_toArray, List.set_cons_zero, List.set_cons_succ])
                refine wpAnyH_ready (rs := [11]) (by kernel_rfl) (by simp) ?_
                refine reg_each (o := _) rfl (fun K hK => ?_) ?_
                · skip
                  have kP := P10.out
                  have y0 : w6.cell? ⟨p6, 0, none⟩ = some (.slice none 0 0) := by rw [kP.cell]; rfl
                  have y1 : w6.cell? ⟨p6, 1, none⟩ = some (.slice none 0 0) := by rw [kP.cell]; rfl
                  have y2 : w6.cell? ⟨p6, 2, none⟩ = some (.slice none 0 0) := by rw [kP.cell]; rfl
                  have f0 := kP.frozen 0
                  have f1 := kP.frozen 1
                  have f2 := kP.frozen 2
                  have zP := kP.lt
                  have HSKc := Lib.hid hHeld.1
                  go_simp
                  refine hK.out _ _ ?_ (fun hHeld2 => ?_)
                  · exact ((hHeld.set HP10.out HGP.out 0 _).set HP10.out HGP.out 1 _).set HP10.out HGP.out 2 _
                  clear hK K hHeld
                  have hHeld := hHeld2
                  clear hHeld2
                  (try simp only [Act.put, List.setIfInBounds_toArray, List.set_cons_zero, List.set_cons_succ])
                  refine reg_take (i := 12) (oi := _) (v := ?_) rfl (by kernel_rfl) (by kernel_rfl) (by kernel_rfl) (fun _ _ _ h => h) (by rfl) ?_ (by assumption) ?_
                  rotate_left
                  · intro w hSw; (try dsimp only at hSw); have d0 : w.cell? ⟨q, 0, none⟩ = some (.slice A1 l1 c1) := (by rw [hSw.1.cell]; rfl); have d1 : w.cell? ⟨q, 1, none⟩ = some (.slice A2 l2 c2) := (by rw [hSw.1.cell]; rfl); have d2 : w.cell? ⟨q, 2, none⟩ = some (.slice A3 l3 c3) := (by rw [hSw.1.cell]; rfl); have x0 := hSw.2.1.k; have x1 := hSw.2.1.n; have x2 := hSw.2.1.d; have x3 := hSw.2.1.b; have x4 := hSw.2.1.s; have x5 := hSw.2.1.p; have zg := hSw.2.2; have zq := hSw.1.lt; go_simp; try with_reducible rfl
                  (try simp only [Act.put, List.setIfInBounds_toArray, List.set_cons_zero, List.set_cons_succ])
                  refine wpAnyH_done (by kernel_rfl) ?_ _
                  refine NoPanic.normal ?_
                  have HSK := Lib.hid (show Blk w6 q 41 #[.slice A1 l1 c1, .slice A2 l2 c2, .slice A3 l3 c3] from HSKc.out)
                  clear hHeld y0 y1 y2 f0 f1 f2 zP
                  have hB7 := both_end HB6.out.2 HB6.out.1 kP
                  have kP3 := ((kP.put 0 (.slice B1 x6.now.length e1) rfl).put 1 (.slice B2 x6.sure.length e2) rfl).put 2 (.slice B3 x6.T.length e3) rfl
                  have hL7 := below_set3 (a := .slice B1 x6.now.length e1) (b := .slice B2 x6.sure.length e2) (c := .slice B3 x6.T.length e3) HL6.out (show B ≤ p6 by have := HP10.out; have := HQB.out; omega)
                  have HB7 := Lib.hid hB7
                  have HL7 := Lib.hid hL7
                  have HP7 := Lib.hid kP3
                  skip
                  have HK7 := Lib.hid (show Blk (((w6.setCell ⟨p6, 0, none⟩ (.slice B1 x6.now.length e1)).setCell ⟨p6, 1, none⟩ (.slice B2 x6.sure.length e2)).setCell ⟨p6, 2, none⟩ (.slice B3 x6.T.length e3)) q 41 #[.slice A1 l1 c1, .slice A2 l2 c2, .slice A3 l3 c3] from blk_far (blk_far (blk_far HSK.out 0 _ (by have := HP10.out; omega)) 1 _ (by have := HP10.out; omega)) 2 _ (by have := HP10.out; omega))
                  clear hB7 hL7 kP kP3 HB6 HL6 P10 HSK
                  generalize ((w6.setCell ⟨p6, 0, none⟩ (.slice B1 x6.now.length e1)).setCell ⟨p6, 1, none⟩ (.slice B2 x6.sure.length e2)).setCell ⟨p6, 2, none⟩ (.slice B3 x6.T.length e3) = w7 at *
                  have y0 : w7.cell? ⟨p6, 0, none⟩ = some (.slice B1 x6.now.length e1) := by rw [HP7.out.cell]; rfl
                  have y1 : w7.cell? ⟨p6, 1, none⟩ = some (.slice B2 x6.sure.length e2) := by rw [HP7.out.cell]; rfl
                  have y2 : w7.cell? ⟨p6, 2, none⟩ = some (.slice B3 x6.T.length e3) := by rw [HP7.out.cell]; rfl
                  have z0 : w7.cell? ⟨q, 0, none⟩ = some (.slice A1 l1 c1) := by rw [HK7.out.cell]; rfl
                  have f0 := HK7.out.frozen 0
                  have z1 : w7.cell? ⟨q, 1, none⟩ = some (.slice A2 l2 c2) := by rw [HK7.out.cell]; rfl
                  have f1 := HK7.out.frozen 1
                  have z2 : w7.cell? ⟨q, 2, none⟩ = some (.slice A3 l3 c3) := by rw [HK7.out.cell]; rfl
                  have f2 := HK7.out.frozen 2
                  have zy := HP7.out.lt
                  have zq := HK7.out.lt
                  go_upto_region 12 with (fail)
                  have hB8 := both_end HB7.out.2 HB7.out.1 HK7.out
                  have hL8 := below_set3 (a := .slice B1 x6.now.length e1) (b := .slice B2 x6.sure.length e2) (c := .slice B3 x6.T.length e3) HL7.out HQB.out
                  have kQ3 := ((HK7.out.put 0 (.slice B1 x6.now.length e1) rfl).put 1 (.slice B2 x6.sure.length e2) rfl).put 2 (.slice B3 x6.T.length e3) rfl
                  have HB8 := Lib.hid hB8
                  have HL8 := Lib.hid hL8
                  have HK8 := Lib.hid kQ3
                  clear y0 y1 y2 z0 z1 z2 f0 f1 f2 zy zq hB8 hL8 kQ3 HB7 HL7 HK7 HP7
                  generalize ((w7.setCell ⟨q, 0, none⟩ (.slice B1 x6.now.length e1)).setCell ⟨q, 1, none⟩ (.slice B2 x6.sure.length e2)).setCell ⟨q, 2, none⟩ (.slice B3 x6.T.length e3) = w8 at *
                  have HF8 := Lib.hid (show RdF w8 (.slice B1 x6.now.length e1) x6.now from by obtain ⟨u1, u2, u3, e, g1, g2, g3⟩ := HB8.out.1; cases e; exact g1)
                  refine wp_region_noPanic ?_
                  refine wp_region_held_drew (S := (fun w' => Below w8.heap.size w8 w')) (by kernel_rfl) ?_ (fun hHeld => ?_)
                  · exact below_drewN (Below.refl _ _) 1
                  generalize w8.drew = wd at *
                  refine reg_take (i := 0) (oi := _) (v := ?_) rfl (by kernel_rfl) (by kernel_rfl) (by kernel_rfl) (fun _ _ _ h => h) (by rfl) ?_ (by assumption) ?_
                  rotate_left
                  · intro w hSw; (try dsimp only at hSw); have kQ := HK8.out.below hSw; have d0 : w.cell? ⟨q, 0, none⟩ = some (.slice B1 x6.now.length e1) := (by rw [kQ.cell]; rfl); have d1 : w.cell? ⟨q, 1, none⟩ = some (.slice B2 x6.sure.length e2) := (by rw [kQ.cell]; rfl); have d2 : w.cell? ⟨q, 2, none⟩ = some (.slice B3 x6.T.length e3) := (by rw [kQ.cell]; rfl); have zq := kQ.lt; go_simp; try with_reducible rfl
                  (try simp only [Act.put, List.setIfInBounds_toArray, List.set_cons_zero, List.set_cons_succ])
                  refine reg_take (i := 1) (oi := _) (v := ?_) rfl (by kernel_rfl) (by kernel_rfl) (by kernel_rfl) (fun _ _ _ h => h) (by rfl) ?_ (by assumption) ?_
                  rotate_left
                  · intro w hSw; (try dsimp only at hSw); have kQ := HK8.out.below hSw; have d0 : w.cell? ⟨q, 0, none⟩ = some (.slice B1 x6.now.length e1) := (by rw [kQ.cell]; rfl); have d1 : w.cell? ⟨q, 1, none⟩ = some (.slice B2 x6.sure.length e2) := (by rw [kQ.cell]; rfl); have d2 : w.cell? ⟨q, 2, none⟩ = some (.slice B3 x6.T.length e3) := (by rw [kQ.cell]; rfl); have zq := kQ.lt; go_simp; try with_reducible rfl
                  (try simp only [Act.put, List.setIfInBounds_toArray, List.set_cons_zero, List.set_cons_succ])
                  refine reg_take (i := 2) (oi := _) (v := ?_) rfl (by kernel_rfl) (by kernel_rfl) (by kernel_rfl) (fun _ _ _ h => h) (by rfl) ?_ (by assumption) ?_
                  rotate_left
                  · intro w hSw; (try dsimp only at hSw); have kQ := HK8.out.below hSw; have d0 : w.cell? ⟨q, 0, none⟩ = some (.slice B1 x6.now.length e1) := (by rw [kQ.cell]; rfl); have d1 : w.cell? ⟨q, 1, none⟩ = some (.slice B2 x6.sure.length e2) := (by rw [kQ.cell]; rfl); have d2 : w.cell? ⟨q, 2, none⟩ = some (.slice B3 x6.T.length e3) := (by rw [kQ.cell]; rfl); have zq := kQ.lt; go_simp; try with_reducible rfl
                  (try simp only [Act.put, List.setIfInBounds_toArray, List.set_cons_zero, List.set_cons_succ])
                  refine reg_take (i := 3) (oi := _) (v := ?_) rfl (by kernel_rfl) (by kernel_rfl) (by kernel_rfl) (fun _ _ _ h => h) (by rfl) ?_ (by assumption) ?_
                  rotate_left
                  · intro w hSw; (try dsimp only at hSw); have kQ := HK8.out.below hSw; have d0 : w.cell? ⟨q, 0, none⟩ = some (.slice B1 x6.now.length e1) := (by rw [kQ.cell]; rfl); have d1 : w.cell? ⟨q, 1, none⟩ = some (.slice B2 x6.sure.length e2) := (by rw [kQ.cell]; rfl); have d2 : w.cell? ⟨q, 2, none⟩ = some (.slice B3 x6.T.length e3) := (by rw [kQ.cell]; rfl); have zq := kQ.lt; go_simp; try with_reducible rfl
                  (try simp only [Act.put, List.setIfInBounds_toArray, List.set_cons_zero, List.set_cons_succ])
                  refine reg_take (i := 4) (oi := _) (v := ?_) rfl (by kernel_rfl) (by kernel_rfl) (by kernel_rfl) (fun _ _ _ h => h) (by rfl) ?_ (by assumption) ?_
                  rotate_left
                  · intro w hSw; (try dsimp only at hSw); have kQ := HK8.out.below hSw; have d0 : w.cell? ⟨q, 0, none⟩ = some (.slice B1 x6.now.length e1) := (by rw [kQ.cell]; rfl); have d1 : w.cell? ⟨q, 1, none⟩ = some (.slice B2 x6.sure.length e2) := (by rw [kQ.cell]; rfl); have d2 : w.cell? ⟨q, 2, none⟩ = some (.slice B3 x6.T.length e3) := (by rw [kQ.cell]; rfl); have zq := kQ.lt; go_simp; try with_reducible rfl
                  (try simp only [Act.put, List.setIfInBounds_toArray, List.set_cons_zero, List.set_cons_succ])
                  refine reg_take (i := 5) (oi := _) (v := ?_) rfl (by kernel_rfl) (by kernel_rfl) (by kernel_rfl) (fun _ _ _ h => h) (by rfl) ?_ (by assumption) ?_
                  rotate_left
                  · intro w hSw; (try dsimp only at hSw); have kQ := HK8.out.below hSw; have d0 : w.cell? ⟨q, 0, none⟩ = some (.slice B1 x6.now.length e1) := (by rw [kQ.cell]; rfl); have d1 : w.cell? ⟨q, 1, none⟩ = some (.slice B2 x6.sure.length e2) := (by rw [kQ.cell]; rfl); have d2 : w.cell? ⟨q, 2, none⟩ = some (.slice B3 x6.T.length e3) := (by rw [kQ.cell]; rfl); have zq := kQ.lt; go_simp; try with_reducible rfl
                  (try simp only [Act.put, List.setIfInBounds_toArray, List.set_cons_zero, List.set_cons_succ])
                  refine wpAnyH_ready (rs := [6]) (by kernel_rfl) (by simp) ?_
                  refine reg_each (o := _) rfl (fun K hK => ?_) ?_
                  · skip
                    go_simp
                    refine (same_walk B d x6 _ _ (HB8.out.2.below hHeld) (HF8.out.kept (KeptY.below hHeld))).mono ?_
                    rintro r w10 ⟨rfl, hb10⟩
                    have BE10 := Lib.hid (below_trans hHeld hb10)
                    clear hb10
                    go_wp2_with (fail)
                    refine hK.out _ _ ?_ (fun hHeld2 => ?_)
                    · exact BE10.out
                    clear hK K hHeld
                    have hHeld := hHeld2
                    clear hHeld2
                    (try simp only [Act.put, List.setIfInBounds_toArray, List.set_cons_zero, List.set_cons_succ])
                    refine reg_take (i := 7) (oi := _) (v := ?_) rfl (by kernel_rfl) (by kernel_rfl) (by kernel_rfl) (fun _ _ _ h => h) (by rfl) ?_ (by assumption) ?_
                    rotate_left
                    · intro w hSw; (try dsimp only at hSw); have kQ := HK8.out.below hSw; have d0 : w.cell? ⟨q, 0, none⟩ = some (.slice B1 x6.now.length e1) := (by rw [kQ.cell]; rfl); have d1 : w.cell? ⟨q, 1, none⟩ = some (.slice B2 x6.sure.length e2) := (by rw [kQ.cell]; rfl); have d2 : w.cell? ⟨q, 2, none⟩ = some (.slice B3 x6.T.length e3) := (by rw [kQ.cell]; rfl); have zq := kQ.lt; go_simp; try with_reducible rfl
                    (try simp only [Act.put, List.setIfInBounds_toArray, List.set_cons_zero, List.set_cons_succ])
                    refine reg_take (i := 8) (oi := _) (v := ?_) rfl (by kernel_rfl) (by kernel_rfl) (by kernel_rfl) (fun _ _ _ h => h) (by rfl) ?_ (by assumption) ?_
                    rotate_left
                    · intro w hSw; (try dsimp only at hSw); have kQ := HK8.out.below hSw; have d0 : w.cell? ⟨q, 0, none⟩ = some (.slice B1 x6.now.length e1) := (by rw [kQ.cell]; rfl); have d1 : w.cell? ⟨q, 1, none⟩ = some (.slice B2 x6.sure.length e2) := (by rw [kQ.cell]; rfl); have d2 : w.cell? ⟨q, 2, none⟩ = some (.slice B3 x6.T.length e3) := (by rw [kQ.cell]; rfl); have zq := kQ.lt; go_simp; try with_reducible rfl
                    (try simp only [Act.put, List.setIfInBounds_toArray, List.set_cons_zero, List.set_cons_succ])
                    refine reg_take (i := 9) (oi := _) (v := ?_) rfl (by kernel_rfl) (by kernel_rfl) (by kernel_rfl) (fun _ _ _ h => h) (by rfl) ?_ (by assumption) ?_
                    rotate_left
                    · intro w hSw; (try dsimp only at hSw); have kQ := HK8.out.below hSw; have d0 : w.cell? ⟨q, 0, none⟩ = some (.slice B1 x6.now.length e1) := (by rw [kQ.cell]; rfl); have d1 : w.cell? ⟨q, 1, none⟩ = some (.slice B2 x6.sure.length e2) := (by rw [kQ.cell]; rfl); have d2 : w.cell? ⟨q, 2, none⟩ = some (.slice B3 x6.T.length e3) := (by rw [kQ.cell]; rfl); have zq := kQ.lt; go_simp; try with_reducible rfl
                    (try simp only [Act.put, List.setIfInBounds_toArray, List.set_cons_zero, List.set_cons_succ])
                    refine reg_take (i := 10) (oi := _) (v := ?_) rfl (by kernel_rfl) (by kernel_rfl) (by kernel_rfl) (fun _ _ _ h => h) (by rfl) ?_ (by assumption) ?_
                    rotate_left
                    · intro w hSw; (try dsimp only at hSw); have kQ := HK8.out.below hSw; have d0 : w.cell? ⟨q, 0, none⟩ = some (.slice B1 x6.now.length e1) := (by rw [kQ.cell]; rfl); have d1 : w.cell? ⟨q, 1, none⟩ = some (.slice B2 x6.sure.length e2) := (by rw [kQ.cell]; rfl); have d2 : w.cell? ⟨q, 2, none⟩ = some (.slice B3 x6.T.length e3) := (by rw [kQ.cell]; rfl); have zq := kQ.lt; go_simp; try with_reducible rfl
                    (try simp only [Act.put, List.setIfInBounds_toArray, List.set_cons_zero, List.set_cons_succ])
                    refine reg_take (i := 12) (oi := _) (v := ?_) rfl (by kernel_rfl) (by kernel_rfl) (by kernel_rfl) (fun _ _ _ h => h) (by rfl) ?_ (by assumption) ?_
                    rotate_left
                    · intro w hSw; (try dsimp only at hSw); have kQ := HK8.out.below hSw; have d0 : w.cell? ⟨q, 0, none⟩ = some (.slice B1 x6.now.length e1) := (by rw [kQ.cell]; rfl); have d1 : w.cell? ⟨q, 1, none⟩ = some (.slice B2 x6.sure.length e2) := (by rw [kQ.cell]; rfl); have d2 : w.cell? ⟨q, 2, none⟩ = some (.slice B3 x6.T.length e3) := (by rw [kQ.cell]; rfl); have zq := kQ.lt; go_simp; try with_reducible rfl
                    (try simp only [Act.put, List.setIfInBounds_toArray, List.set_cons_zero, List.set_cons_succ])
                    refine reg_take (i := 13) (oi := _) (v := ?_) rfl (by kernel_rfl) (by kernel_rfl) (by kernel_rfl) (fun _ _ _ h => h) (by rfl) ?_ (by assumption) ?_
                    rotate_left
                    · intro w hSw; (try dsimp only at hSw); have kQ := HK8.out.below hSw; have d0 : w.cell? ⟨q, 0, none⟩ = some (.slice B1 x6.now.length e1) := (by rw [kQ.cell]; rfl); have d1 : w.cell? ⟨q, 1, none⟩ = some (.slice B2 x6.sure.length e2) := (by rw [kQ.cell]; rfl); have d2 : w.cell? ⟨q, 2, none⟩ = some (.slice B3 x6.T.length e3) := (by rw [kQ.cell]; rfl); have zq := kQ.lt; go_simp; try with_reducible rfl
                    (try simp only [Act.put, List.setIfInBounds_toArray, List.set_cons_zero, List.set_cons_succ])
                    refine reg_take (i := 14) (oi := _) (v := ?_) rfl (by kernel_rfl) (by kernel_rfl) (by kernel_rfl) (fun _ _ _ h => h) (by rfl) ?_ (by assumption) ?_
                    rotate_left
                    · intro w hSw; (try dsimp only at hSw); have kQ := HK8.out.below hSw; have d0 : w.cell? ⟨q, 0, none⟩ = some (.slice B1 x6.now.length e1) := (by rw [kQ.cell]; rfl); have d1 : w.cell? ⟨q, 1, none⟩ = some (.slice B2 x6.sure.length e2) := (by rw [kQ.cell]; rfl); have d2 : w.cell? ⟨q, 2, none⟩ = some (.slice B3 x6.T.length e3) := (by rw [kQ.cell]; rfl); have zq := kQ.lt; go_simp; try with_reducible rfl
                    (try simp only [Act.put, List.setIfInBounds_toArray, List.set_cons_zero, List.set_cons_succ])
                    refine wpAnyH_ready (rs := [11]) (by kernel_rfl) (by simp) ?_
                    refine reg_each (o := _) rfl (fun K hK => ?_) ?_
                    · skip
                      go_simp
                      refine (pending_walk B d x6.now x6.sure x6.T _ (HB8.out.2.below hHeld).1).mono ?_
                      rintro r w11 ⟨rfl, rfl⟩
                      have BE11 := Lib.hid hHeld
                      go_wp2_with (fail)
                      refine hK.out _ _ ?_ (fun hHeld2 => ?_)
                      · exact BE11.out
                      clear hK K hHeld
                      have hHeld := hHeld2
                      clear hHeld2
                      (try simp only [Act.put, List.setIfInBounds_toArray, List.set_cons_zero, List.set_cons_succ])
                      refine reg_take (i := 15) (oi := _) (v := ?_) rfl (by kernel_rfl) (by kernel_rfl) (by kernel_rfl) (fun _ _ _ h => h) (by rfl) ?_ (by assumption) ?_
                      rotate_left
                      · intro w hSw; (try dsimp only at hSw); have kQ := HK8.out.below hSw; have d0 : w.cell? ⟨q, 0, none⟩ = some (.slice B1 x6.now.length e1) := (by rw [kQ.cell]; rfl); have d1 : w.cell? ⟨q, 1, none⟩ = some (.slice B2 x6.sure.length e2) := (by rw [kQ.cell]; rfl); have d2 : w.cell? ⟨q, 2, none⟩ = some (.slice B3 x6.T.length e3) := (by rw [kQ.cell]; rfl); have zq := kQ.lt; go_simp; try with_reducible rfl
                      (try simp only [Act.put, List.setIfInBounds_toArray, List.set_cons_zero, List.set_cons_succ])
                      refine reg_take (i := 16) (oi := _) (v := ?_) rfl (by kernel_rfl) (by kernel_rfl) (by kernel_rfl) (fun _ _ _ h => h) (by rfl) ?_ (by assumption) ?_
                      rotate_left
                      · intro w hSw; (try dsimp only at hSw); have kQ := HK8.out.below hSw; have d0 : w.cell? ⟨q, 0, none⟩ = some (.slice B1 x6.now.length e1) := (by rw [kQ.cell]; rfl); have d1 : w.cell? ⟨q, 1, none⟩ = some (.slice B2 x6.sure.length e2) := (by rw [kQ.cell]; rfl); have d2 : w.cell? ⟨q, 2, none⟩ = some (.slice B3 x6.T.length e3) := (by rw [kQ.cell]; rfl); have zq := kQ.lt; go_simp; try with_reducible rfl
                      (try simp only [Act.put, List.setIfInBounds_toArray, List.set_cons_zero, List.set_cons_succ])
                      refine wpAnyH_done (by kernel_rfl) ?_ _
                      refine NoPanic.normal ?_
                      clear hHeld BE10
                      have HL11 := Lib.hid (HL8.out.trans (BE11.out.mono HB8.out.2.1.lo.2))
                      have HA11 := Lib.hid ((HA0.out.below HL11.out hgB))
                      have x2 := HA11.out.d
                      have zg : g < w11.heap.size := Nat.lt_of_lt_of_le hgB (HB8.out.2.below BE11.out).1.lo.2
                      have RW := read_walk B d x6.now x6.sure x6.T a.dst w11 (HB8.out.2.below BE11.out).1 (fun bs e => (HB8.out.2.2.now.look e).2)
                      go_upto_region 14 with (fail)
                      go_wp2_with (fail)
                      refine Calls.mono RW ?_
                      rintro y w12 ⟨v12, rfl, _, hb12⟩
                      have BE12 := Lib.hid (below_trans BE11.out hb12)
                      clear RW hb12 x2 zg BE11 HA11 HL11
                      have HL12 := Lib.hid (HL8.out.trans (BE12.out.mono HB8.out.2.1.lo.2))
                      have HA12 := Lib.hid (HA0.out.below HL12.out hgB)
                      have x2 := HA12.out.d
                      have zg : g < w12.heap.size := Nat.lt_of_lt_of_le hgB (HB8.out.2.below BE12.out).1.lo.2
                      obtain ⟨c, hc⟩ : ∃ c, checkN x6.now a.dst.data.toList = c := ⟨_, rfl⟩
                      have HC := Lib.hid hc
                      rw [hc]
                      have NW := docnamed_walk a.dst HAC.out.d w12
                      clear hc
                      go_upto_region 16 with (fail)
                      go_wp2_with (fail)
                      refine Calls.mono NW ?_
                      rintro y w13 ⟨rfl, hb13⟩
                      have BE13 := Lib.hid (below_trans BE12.out hb13)
                      clear NW hb13 x2 zg BE12 HA12 HL12
                      have HL13 := Lib.hid (HL8.out.trans (BE13.out.mono HB8.out.2.1.lo.2))
                      have HG13 := Lib.hid (show ErrType w13 from (HL13.out.cell (p := ⟨0, 0, none⟩) HGB.out).trans HG1.out)
                      cases hnm : namedF a.dst.data.toList with
                      | false =>
                        obtain rfl : c = 11 := by have := HC.out; unfold checkN at this; rw [hnm] at this; exact this.symm
                        have NM := num_errI 11 w13 HG13.out
                        go_upto_region 20 with (fail)
                        go_wp2_with (fail)
                        refine Calls.mono NM ?_
                        rintro y w15 ⟨rfl, hb15⟩
                        have BE15 := Lib.hid (below_trans BE13.out hb15)
                        have HNX := Lib.hid (show LoX B d q w1 w15 from ⟨x6, _, _, _, HK8.out.below BE15.out, HB8.out.below BE15.out, HL8.out.trans (BE15.out.mono HB8.out.2.1.lo.2)⟩)
                        clear NM hb15
                        go_wp2_with (fail)
                        go_roundw
                        case rel => exact ⟨i + 1, by go_num, by omega, HNX.out⟩
                        case measure => simp [intOf]; omega
                      | true =>
                        go_upto_region 18 with (fail)
                        refine wp_region_noPanic ?_
                        refine wp_region_held_drew (S := (fun w' => Below w13.heap.size w13 w')) (by kernel_rfl) ?_ (fun hHeld => ?_)
                        · exact below_drewN (Below.refl _ _) 1
                        generalize w13.drew = wd at *
                        refine reg_take (i := 0) (oi := _) (v := ?_) rfl (by kernel_rfl) (by kernel_rfl) (by kernel_rfl) (fun _ _ _ h => h) (by rfl) ?_ (by assumption) ?_
                        rotate_left
                        · intro w hSw; (try dsimp only at hSw); have kQ := HK8.out.below (below_trans BE13.out hSw); have d0 : w.cell? ⟨q, 0, none⟩ = some (.slice B1 x6.now.length e1) := (by rw [kQ.cell]; rfl); have d1 : w.cell? ⟨q, 1, none⟩ = some (.slice B2 x6.sure.length e2) := (by rw [kQ.cell]; rfl); have d2 : w.cell? ⟨q, 2, none⟩ = some (.slice B3 x6.T.length e3) := (by rw [kQ.cell]; rfl); have zq := kQ.lt; have x2 := (HA0.out.below (HL13.out.trans (hSw.mono (HB8.out.2.below BE13.out).1.lo.2)) hgB).d; have zg : g < w.heap.size := Nat.lt_of_lt_of_le hgB (Nat.le_trans (HB8.out.2.below BE13.out).1.lo.2 hSw.size); go_simp; try with_reducible rfl
                        (try simp only [Act.put, List.setIfInBounds_toArray, List.set_cons_zero, List.set_cons_succ])
                        refine reg_take (i := 1) (oi := _) (v := ?_) rfl (by kernel_rfl) (by kernel_rfl) (by kernel_rfl) (fun _ _ _ h => h) (by rfl) ?_ (by assumption) ?_
                        rotate_left
                        · intro w hSw; (try dsimp only at hSw); have kQ := HK8.out.below (below_trans BE13.out hSw); have d0 : w.cell? ⟨q, 0, none⟩ = some (.slice B1 x6.now.length e1) := (by rw [kQ.cell]; rfl); have d1 : w.cell? ⟨q, 1, none⟩ = some (.slice B2 x6.sure.length e2) := (by rw [kQ.cell]; rfl); have d2 : w.cell? ⟨q, 2, none⟩ = some (.slice B3 x6.T.length e3) := (by rw [kQ.cell]; rfl); have zq := kQ.lt; have x2 := (HA0.out.below (HL13.out.trans (hSw.mono (HB8.out.2.below BE13.out).1.lo.2)) hgB).d; have zg : g < w.heap.size := Nat.lt_of_lt_of_le hgB (Nat.le_trans (HB8.out.2.below BE13.out).1.lo.2 hSw.size); go_simp; try with_reducible rfl
                        (try simp only [Act.put, List.setIfInBounds_toArray, List.set_cons_zero, List.set_cons_succ])
                        refine reg_take (i := 2) (oi := _) (v := ?_) rfl (by kernel_rfl) (by kernel_rfl) (by kernel_rfl) (fun _ _ _ h => h) (by rfl) ?_ (by assumption) ?_
                        rotate_left
                        · intro w hSw; (try dsimp only at hSw); have kQ := HK8.out.below (below_trans BE13.out hSw); have d0 : w.cell? ⟨q, 0, none⟩ = some (.slice B1 x6.now.length e1) := (by rw [kQ.cell]; rfl); have d1 : w.cell? ⟨q, 1, none⟩ = some (.slice B2 x6.sure.length e2) := (by rw [kQ.cell]; rfl); have d2 : w.cell? ⟨q, 2, none⟩ = some (.slice B3 x6.T.length e3) := (by rw [kQ.cell]; rfl); have zq := kQ.lt; have x2 := (HA0.out.below (HL13.out.trans (hSw.mono (HB8.out.2.below BE13.out).1.lo.2)) hgB).d; have zg : g < w.heap.size := Nat.lt_of_lt_of_le hgB (Nat.le_trans (HB8.out.2.below BE13.out).1.lo.2 hSw.size); go_simp; try with_reducible rfl
                        (try simp only [Act.put, List.setIfInBounds_toArray, List.set_cons_zero, List.set_cons_succ])
                        refine reg_take (i := 3) (oi := _) (v := ?_) rfl (by kernel_rfl) (by kernel_rfl) (by kernel_rfl) (fun _ _ _ h => h) (by rfl) ?_ (by assumption) ?_
                        rotate_left
                        · intro w hSw; (try dsimp only at hSw); have kQ := HK8.out.below (below_trans BE13.out hSw); have d0 : w.cell? ⟨q, 0, none⟩ = some (.slice B1 x6.now.length e1) := (by rw [kQ.cell]; rfl); have d1 : w.cell? ⟨q, 1, none⟩ = some (.slice B2 x6.sure.length e2) := (by rw [kQ.cell]; rfl); have d2 : w.cell? ⟨q, 2, none⟩ = some (.slice B3 x6.T.length e3) := (by rw [kQ.cell]; rfl); have zq := kQ.lt; have x2 := (HA0.out.below (HL13.out.trans (hSw.mono (HB8.out.2.below BE13.out).1.lo.2)) hgB).d; have zg : g < w.heap.size := Nat.lt_of_lt_of_le hgB (Nat.le_trans (HB8.out.2.below BE13.out).1.lo.2 hSw.size); go_simp; try with_reducible rfl
                        (try simp only [Act.put, List.setIfInBounds_toArray, List.set_cons_zero, List.set_cons_succ])
                        refine reg_take (i := 4) (oi := _) (v := ?_) rfl (by kernel_rfl) (by kernel_rfl) (by kernel_rfl) (fun _ _ _ h => h) (by rfl) ?_ (by assumption) ?_
                        rotate_left
                        · intro w hSw; (try dsimp only at hSw); have kQ := HK8.out.below (below_trans BE13.out hSw); have d0 : w.cell? ⟨q, 0, none⟩ = some (.slice B1 x6.now.length e1) := (by rw [kQ.cell]; rfl); have d1 : w.cell? ⟨q, 1, none⟩ = some (.slice B2 x6.sure.length e2) := (by rw [kQ.cell]; rfl); have d2 : w.cell? ⟨q, 2, none⟩ = some (.slice B3 x6.T.length e3) := (by rw [kQ.cell]; rfl); have zq := kQ.lt; have x2 := (HA0.out.below (HL13.out.trans (hSw.mono (HB8.out.2.below BE13.out).1.lo.2)) hgB).d; have zg : g < w.heap.size := Nat.lt_of_lt_of_le hgB (Nat.le_trans (HB8.out.2.below BE13.out).1.lo.2 hSw.size); go_simp; try with_reducible rfl
                        (try simp only [Act.put, List.setIfInBounds_toArray, List.set_cons_zero, List.set_cons_succ])
                        refine reg_take (i := 5) (oi := _) (v := ?_) rfl (by kernel_rfl) (by kernel_rfl) (by kernel_rfl) (fun _ _ _ h => h) (by rfl) ?_ (by assumption) ?_
                        rotate_left
                        · intro w hSw; (try dsimp only at hSw); have kQ := HK8.out.below (below_trans BE13.out hSw); have d0 : w.cell? ⟨q, 0, none⟩ = some (.slice B1 x6.now.length e1) := (by rw [kQ.cell]; rfl); have d1 : w.cell? ⟨q, 1, none⟩ = some (.slice B2 x6.sure.length e2) := (by rw [kQ.cell]; rfl); have d2 : w.cell? ⟨q, 2, none⟩ = some (.slice B3 x6.T.length e3) := (by rw [kQ.cell]; rfl); have zq := kQ.lt; have x2 := (HA0.out.below (HL13.out.trans (hSw.mono (HB8.out.2.below BE13.out).1.lo.2)) hgB).d; have zg : g < w.heap.size := Nat.lt_of_lt_of_le hgB (Nat.le_trans (HB8.out.2.below BE13.out).1.lo.2 hSw.size); go_simp; try with_reducible rfl
                        (try simp only [Act.put, List.setIfInBounds_toArray, List.set_cons_zero, List.set_cons_succ])
                        refine reg_take (i := 6) (oi := _) (v := ?_) rfl (by kernel_rfl) (by kernel_rfl) (by kernel_rfl) (fun _ _ _ h => h) (by rfl) ?_ (by assumption) ?_
                        rotate_left
                        · intro w hSw; (try dsimp only at hSw); have kQ := HK8.out.below (below_trans BE13.out hSw); have d0 : w.cell? ⟨q, 0, none⟩ = some (.slice B1 x6.now.length e1) := (by rw [kQ.cell]; rfl); have d1 : w.cell? ⟨q, 1, none⟩ = some (.slice B2 x6.sure.length e2) := (by rw [kQ.cell]; rfl); have d2 : w.cell? ⟨q, 2, none⟩ = some (.slice B3 x6.T.length e3) := (by rw [kQ.cell]; rfl); have zq := kQ.lt; have x2 := (HA0.out.below (HL13.out.trans (hSw.mono (HB8.out.2.below BE13.out).1.lo.2)) hgB).d; have zg : g < w.heap.size := Nat.lt_of_lt_of_le hgB (Nat.le_trans (HB8.out.2.below BE13.out).1.lo.2 hSw.size); go_simp; try with_reducible rfl
                        (try simp only [Act.put, List.setIfInBounds_toArray, List.set_cons_zero, List.set_cons_succ])
                        refine wpAnyH_ready (rs := [7]) (by kernel_rfl) (by simp) ?_
                        refine reg_each (o := _) rfl (fun K hK => ?_) ?_
                        · skip
                          go_simp
                          refine (find_walk _ x6.now a.dst.data.toList _ (HF8.out.kept (KeptY.below (below_trans BE13.out hHeld))) HB8.out.2.1.an.2).mono ?_
                          rintro r w14 ⟨rr, rfl, rfl, hrr⟩
                          have BE14 := Lib.hid (below_trans BE13.out hHeld)
                          have HRR := Lib.hid hrr
                          have HHE := Lib.hid hHeld
                          clear hrr
                          go_wp2_with (fail)
                          refine hK.out _ _ ?_ (fun hHeld2 => ?_)
                          · exact HHE.out
                          clear hK K hHeld
                          have hHeld := hHeld2
                          clear hHeld2
                          (try simp only [Act.put, List.setIfInBounds_toArray, List.set_cons_zero, List.set_cons_succ])
                          refine reg_take (i := 8) (oi := _) (v := ?_) rfl (by kernel_rfl) (by kernel_rfl) (by kernel_rfl) (fun _ _ _ h => h) (by rfl) ?_ (by assumption) ?_
                          rotate_left
                          · intro w hSw; (try dsimp only at hSw); have kQ := HK8.out.below (below_trans BE13.out hSw); have d0 : w.cell? ⟨q, 0, none⟩ = some (.slice B1 x6.now.length e1) := (by rw [kQ.cell]; rfl); have d1 : w.cell? ⟨q, 1, none⟩ = some (.slice B2 x6.sure.length e2) := (by rw [kQ.cell]; rfl); have d2 : w.cell? ⟨q, 2, none⟩ = some (.slice B3 x6.T.length e3) := (by rw [kQ.cell]; rfl); have zq := kQ.lt; have x2 := (HA0.out.below (HL13.out.trans (hSw.mono (HB8.out.2.below BE13.out).1.lo.2)) hgB).d; have zg : g < w.heap.size := Nat.lt_of_lt_of_le hgB (Nat.le_trans (HB8.out.2.below BE13.out).1.lo.2 hSw.size); go_simp; try with_reducible rfl
                          (try simp only [Act.put, List.setIfInBounds_toArray, List.set_cons_zero, List.set_cons_succ])
                          refine wpAnyH_done (by kernel_rfl) ?_ _
                          refine NoPanic.normal ?_
                          clear hHeld HHE
                          have HG14 := Lib.hid (show ErrType w14 from ((HL8.out.trans (BE14.out.mono HB8.out.2.1.lo.2)).cell (p := ⟨0, 0, none⟩) HGB.out).trans HG1.out)
                          rcases HRR.out with ⟨rfl, hln⟩ | ⟨kk, ff, rfl, _, _, hls⟩
                          · obtain rfl : c = 8 := by have := HC.out; unfold checkN at this; rw [if_pos hnm, hln] at this; exact this.symm
                            clear hnm hln HC HRR
                            have NM := num_errI 8 w14 HG14.out
                            go_upto_region 20 with (fail)
                            go_wp2_with (fail)
                            refine Calls.mono NM ?_
                            rintro y w15 ⟨rfl, hb15⟩
                            have BE15 := Lib.hid (below_trans BE14.out hb15)
                            have HNX := Lib.hid (show LoX B d q w1 w15 from ⟨x6, _, _, _, HK8.out.below BE15.out, HB8.out.below BE15.out, HL8.out.trans (BE15.out.mono HB8.out.2.1.lo.2)⟩)
                            clear NM hb15
                            go_wp2_with (fail)
                            go_roundw
                            case rel => exact ⟨i + 1, by go_num, by omega, HNX.out⟩
                            case measure => simp [intOf]; omega
                          · obtain rfl : c = 0 := by have := HC.out; unfold checkN at this; rw [if_pos hnm, hls] at this; exact this.symm
                            have kk0 : (0 : Int) ≤ kk := by omega
                            clear hnm hls HC HRR
                            have NM := num_errI 0 w14 HG14.out
                            go_upto_region 20 with (fail)
                            go_wp2_with (fail)
                            refine Calls.mono NM ?_
                            rintro y w15 ⟨rfl, hb15⟩
                            have BE15 := Lib.hid (below_trans BE14.out hb15)
                            have HNX := Lib.hid (show LoX B d q w1 w15 from ⟨x6, _, _, _, HK8.out.below BE15.out, HB8.out.below BE15.out, HL8.out.trans (BE15.out.mono HB8.out.2.1.lo.2)⟩)
                            clear NM hb15
                            go_wp2_with (fail)
                            go_roundw
                            case rel => exact ⟨i + 1, by go_num, by omega, HNX.out⟩
                            case measure => simp [intOf]; omega
                        exact AllReadyH.nil
                    exact AllReadyH.nil
                  exact AllReadyH.nil
                exact AllReadyH.nil
              exact AllReadyH.nil
            exact AllReadyH.nil
          · go_upto_region 10 with (fail)
            clear hb3 hb3' hbz x0 x1 x2 x3 x4 x5 zg
            have HS0 := Lib.hid (show S10 q g (o + i * 6) (.slice A1 l1 c1) (.slice A2 l2 c2) (.slice A3 l3 c3) a wl from ⟨HBK.out, HAT.out, Nat.lt_of_lt_of_le hgB HBO.out.2.1.lo.2⟩)
            have TC := Lib.hid (fun (w' : World) (h : Both B d w' (.agg #[(.slice A1 l1 c1), (.slice A2 l2 c2), (.slice A3 l3 c3)]) x) (hg : ErrType w') => tryl_walk B d a _ x w' HGB.out hg h HAC.out.n HAC.out.d HAC.out.b HAC.out.s.1 HAC.out.s.2 HAC.out.p.1 HAC.out.p.2)
            have HGL := Lib.hid (show ErrType wl from (HBL.out.cell (p := ⟨0, 0, none⟩) HGB.out).trans HG1.out)
            refine wp_region_noPanic ?_
            refine wp_region_held_drew (S := (fun w' => S10 q g (o + i * 6) (.slice A1 l1 c1) (.slice A2 l2 c2) (.slice A3 l3 c3) a w')) (by kernel_rfl) ?_ (fun hHeld => ?_)
            · exact HS0.out.of (Fr.below HBO.out.2.1.lo.2 (below_drewN (Below.refl _ _) 1)) hgB
            have bd : Below wl.heap.size wl wl.drew := below_drewN (Below.refl wl.heap.size wl) 1
            have HBd := Lib.hid (HBO.out.below bd)
            have HGd := Lib.hid (HGL.out.below bd)
            have HLd := Lib.hid (HBL.out.trans (bd.mono HBO.out.2.1.lo.2))
            have HSKd := Lib.hid (HBK.out.below bd)
            clear bd HBL HBO HBK HGL
            generalize wl.drew = wd at *
            refine reg_take (i := 0) (oi := _) (v := ?_) rfl (by kernel_rfl) (by kernel_rfl) (by kernel_rfl) (fun _ _ _ h => h) (by rfl) ?_ (by assumption) ?_
            rotate_left
            · intro w hSw; (try dsimp only at hSw); have d0 : w.cell? ⟨q, 0, none⟩ = some (.slice A1 l1 c1) := (by rw [hSw.1.cell]; rfl); have d1 : w.cell? ⟨q, 1, none⟩ = some (.slice A2 l2 c2) := (by rw [hSw.1.cell]; rfl); have d2 : w.cell? ⟨q, 2, none⟩ = some (.slice A3 l3 c3) := (by rw [hSw.1.cell]; rfl); have x0 := hSw.2.1.k; have x1 := hSw.2.1.n; have x2 := hSw.2.1.d; have x3 := hSw.2.1.b; have x4 := hSw.2.1.s; have x5 := hSw.2.1.p; have zg := hSw.2.2; have zq := hSw.1.lt; go_simp; try with_reducible rfl
            (try simp only [Act.put, List.setIfInBounds_toArray, List.set_cons_zero, List.set_cons_succ])
            refine reg_take (i := 1) (oi := _) (v := ?_) rfl (by kernel_rfl) (by kernel_rfl) (by kernel_rfl) (fun _ _ _ h => h) (by rfl) ?_ (by assumption) ?_
            rotate_left
            · intro w hSw; (try dsimp only at hSw); have d0 : w.cell? ⟨q, 0, none⟩ = some (.slice A1 l1 c1) := (by rw [hSw.1.cell]; rfl); have d1 : w.cell? ⟨q, 1, none⟩ = some (.slice A2 l2 c2) := (by rw [hSw.1.cell]; rfl); have d2 : w.cell? ⟨q, 2, none⟩ = some (.slice A3 l3 c3) := (by rw [hSw.1.cell]; rfl); have x0 := hSw.2.1.k; have x1 := hSw.2.1.n; have x2 := hSw.2.1.d; have x3 := hSw.2.1.b; have x4 := hSw.2.1.s; have x5 := hSw.2.1.p; have zg := hSw.2.2; have zq := hSw.1.lt; go_simp; try with_reducible rfl
            (try simp only [Act.put, List.setIfInBounds_toArray, List.set_cons_zero, List.set_cons_succ])
            refine reg_take (i := 2) (oi := _) (v := ?_) rfl (by kernel_rfl) (by kernel_rfl) (by kernel_rfl) (fun _ _ _ h => h) (by rfl) ?_ (by assumption) ?_
            rotate_left
            · intro w hSw; (try dsimp only at hSw); have d0 : w.cell? ⟨q, 0, none⟩ = some (.slice A1 l1 c1) := (by rw [hSw.1.cell]; rfl); have d1 : w.cell? ⟨q, 1, none⟩ = some (.slice A2 l2 c2) := (by rw [hSw.1.cell]; rfl); have d2 : w.cell? ⟨q, 2, none⟩ = some (.slice A3 l3 c3) := (by rw [hSw.1.cell]; rfl); have x0 := hSw.2.1.k; have x1 := hSw.2.1.n; have x2 := hSw.2.1.d; have x3 := hSw.2.1.b; have x4 := hSw.2.1.s; have x5 := hSw.2.1.p; have zg := hSw.2.2; have zq := hSw.1.lt; go_simp; try with_reducible rfl
            (try simp only [Act.put, List.setIfInBounds_toArray, List.set_cons_zero, List.set_cons_succ])
            refine reg_take (i := 3) (oi := _) (v := ?_) rfl (by kernel_rfl) (by kernel_rfl) (by kernel_rfl) (fun _ _ _ h => h) (by rfl) ?_ (by assumption) ?_
            rotate_left
            · intro w hSw; (try dsimp only at hSw); have d0 : w.cell? ⟨q, 0, none⟩ = some (.slice A1 l1 c1) := (by rw [hSw.1.cell]; rfl); have d1 : w.cell? ⟨q, 1, none⟩ = some (.slice A2 l2 c2) := (by rw [hSw.1.cell]; rfl); have d2 : w.cell? ⟨q, 2, none⟩ = some (.slice A3 l3 c3) := (by rw [hSw.1.cell]; rfl); have x0 := hSw.2.1.k; have x1 := hSw.2.1.n; have x2 := hSw.2.1.d; have x3 := hSw.2.1.b; have x4 := hSw.2.1.s; have x5 := hSw.2.1.p; have zg := hSw.2.2; have zq := hSw.1.lt; go_simp; try with_reducible rfl
            (try simp only [Act.put, List.setIfInBounds_toArray, List.set_cons_zero, List.set_cons_succ])
            refine reg_take (i := 4) (oi := _) (v := ?_) rfl (by kernel_rfl) (by kernel_rfl) (by kernel_rfl) (fun _ _ _ h => h) (by rfl) ?_ (by assumption) ?_
            rotate_left
            · intro w hSw; (try dsimp only at hSw); have d0 : w.cell? ⟨q, 0, none⟩ = some (.slice A1 l1 c1) := (by rw [hSw.1.cell]; rfl); have d1 : w.cell? ⟨q, 1, none⟩ = some (.slice A2 l2 c2) := (by rw [hSw.1.cell]; rfl); have d2 : w.cell? ⟨q, 2, none⟩ = some (.slice A3 l3 c3) := (by rw [hSw.1.cell]; rfl); have x0 := hSw.2.1.k; have x1 := hSw.2.1.n; have x2 := hSw.2.1.d; have x3 := hSw.2.1.b; have x4 := hSw.2.1.s; have x5 := hSw.2.1.p; have zg := hSw.2.2; have zq := hSw.1.lt; go_simp; try with_reducible rfl
            (try simp only [Act.put, List.setIfInBounds_toArray, List.set_cons_zero, List.set_cons_succ])
            refine reg_take (i := 5) (oi := _) (v := ?_) rfl (by kernel_rfl) (by kernel_rfl) (by kernel_rfl) (fun _ _ _ h => h) (by rfl) ?_ (by assumption) ?_
            rotate_left
            · intro w hSw; (try dsimp only at hSw); have d0 : w.cell? ⟨q, 0, none⟩ = some (.slice A1 l1 c1) := (by rw [hSw.1.cell]; rfl); have d1 : w.cell? ⟨q, 1, none⟩ = some (.slice A2 l2 c2) := (by rw [hSw.1.cell]; rfl); have d2 : w.cell? ⟨q, 2, none⟩ = some (.slice A3 l3 c3) := (by rw [hSw.1.cell]; rfl); have x0 := hSw.2.1.k; have x1 := hSw.2.1.n; have x2 := hSw.2.1.d; have x3 := hSw.2.1.b; have x4 := hSw.2.1.s; have x5 := hSw.2.1.p; have zg := hSw.2.2; have zq := hSw.1.lt; go_simp; try with_reducible rfl
            (try simp only [Act.put, List.setIfInBounds_toArray, List.set_cons_zero, List.set_cons_succ])
            have HQL_wd := Lib.hid (show q < wd.heap.size from hHeld.1.lt)
            refine wpAnyH_ready (rs := [6, 10]) (by kernel_rfl) (by simp) ?_
            refine reg_each (o := _) rfl (fun K hK => ?_) ?_
            · skip
              go_simp
              refine (TC.out _ HBd.out HGd.out).mono ?_
              rintro r w6 ⟨v6, x6, rfl, hbo, hF6⟩
              obtain ⟨⟨u1, u2, u3, eu, g1, g2, g3⟩, hdk⟩ := hbo
              subst eu
              obtain ⟨B1, e1, rfl⟩ := g1.form
              obtain ⟨B2, e2, rfl⟩ := g2.form
              obtain ⟨B3, e3, rfl⟩ := g3.form
              have HB6 := Lib.hid (show Both B d w6 (.agg #[.slice B1 x6.now.length e1, .slice B2 x6.sure.length e2, .slice B3 x6.T.length e3]) x6 from ⟨⟨_, _, _, rfl, g1, g2, g3⟩, hdk⟩)
              have HF6 := Lib.hid hF6
              clear hF6 g1 g2 g3 hdk
              go_wp2_with (fail)
              refine hK.out _ _ ?_ (fun hHeld2 => ?_)
              · exact hHeld.of HF6.out hgB
              clear hK K hHeld
              have hHeld := hHeld2
              clear hHeld2
              (try simp only [Act.put, List.setIfInBounds_toArray, List.set_cons_zero, List.set_cons_succ])
              have HL6 := Lib.hid (HLd.out.trans HF6.out.1)
              clear HF6 HBd HLd HGd TC
              have HQL_w6 := Lib.hid (show q < w6.heap.size from hHeld.1.lt)
              refine reg_take (i := 7) (oi := _) (v := ?_) rfl (by kernel_rfl) (by kernel_rfl) (by kernel_rfl) (fun _ _ _ h => h) (by rfl) ?_ (by assumption) ?_
              rotate_left
              · intro w hSw; (try dsimp only at hSw); have d0 : w.cell? ⟨q, 0, none⟩ = some (.slice A1 l1 c1) := (by rw [hSw.1.cell]; rfl); have d1 : w.cell? ⟨q, 1, none⟩ = some (.slice A2 l2 c2) := (by rw [hSw.1.cell]; rfl); have d2 : w.cell? ⟨q, 2, none⟩ = some (.slice A3 l3 c3) := (by rw [hSw.1.cell]; rfl); have x0 := hSw.2.1.k; have x1 := hSw.2.1.n; have x2 := hSw.2.1.d; have x3 := hSw.2.1.b; have x4 := hSw.2.1.s; have x5 := hSw.2.1.p; have zg := hSw.2.2; have zq := hSw.1.lt; go_simp; try with_reducible rfl
              (try simp only [Act.put, List.setIfInBounds_toArray, List.set_cons_zero, List.set_cons_succ])
              refine reg_take (i := 8) (oi := _) (v := ?_) rfl (by kernel_rfl) (by kernel_rfl) (by kernel_rfl) (fun _ _ _ h => h) (by rfl) ?_ (by assumption) ?_
              rotate_left
              · intro w hSw; (try dsimp only at hSw); have d0 : w.cell? ⟨q, 0, none⟩ = some (.slice A1 l1 c1) := (by rw [hSw.1.cell]; rfl); have d1 : w.cell? ⟨q, 1, none⟩ = some (.slice A2 l2 c2) := (by rw [hSw.1.cell]; rfl); have d2 : w.cell? ⟨q, 2, none⟩ = some (.slice A3 l3 c3) := (by rw [hSw.1.cell]; rfl); have x0 := hSw.2.1.k; have x1 := hSw.2.1.n; have x2 := hSw.2.1.d; have x3 := hSw.2.1.b; have x4 := hSw.2.1.s; have x5 := hSw.2.1.p; have zg := hSw.2.2; have zq := hSw.1.lt; go_simp; try with_reducible rfl
              (try simp only [Act.put, List.setIfInBounds_toArray, List.set_cons_zero, List.set_cons_succ])
              refine reg_take (i := 9) (oi := _) (v := ?_) rfl (by kernel_rfl) (by kernel_rfl) (by kernel_rfl) (fun _ _ _ h => h) (by rfl) ?_ (by assumption) ?_
              rotate_left
              · intro w hSw; (try dsimp only at hSw); have d0 : w.cell? ⟨q, 0, none⟩ = some (.slice A1 l1 c1) := (by rw [hSw.1.cell]; rfl); have d1 : w.cell? ⟨q, 1, none⟩ = some (.slice A2 l2 c2) := (by rw [hSw.1.cell]; rfl); have d2 : w.cell? ⟨q, 2, none⟩ = some (.slice A3 l3 c3) := (by rw [hSw.1.cell]; rfl); have x0 := hSw.2.1.k; have x1 := hSw.2.1.n; have x2 := hSw.2.1.d; have x3 := hSw.2.1.b; have x4 := hSw.2.1.s; have x5 := hSw.2.1.p; have zg := hSw.2.2; have zq := hSw.1.lt; go_simp; try with_reducible rfl
              (try simp only [Act.put, List.setIfInBounds_toArray, List.set_cons_zero, List.set_cons_succ])
              refine wpAnyH_ready (rs := [10]) (by kernel_rfl) (by simp) ?_
              refine reg_each (o := _) rfl (fun K hK => ?_) ?_
              · skip
                go_simp
                refine hK.out _ _ ?_ (fun hHeld2 => ?_)
                · exact hHeld.of (Fr.below HB6.out.2.1.lo.2 ((Below.refl w6.heap.size w6).alloc (Nat.le_refl _) (.cells #[.slice none 0 0, .slice none 0 0, .slice none 0 0] 41))) hgB
                clear hK K hHeld
                have hHeld := hHeld2
                clear hHeld2
                (try simp only [Act.put, List.setIfInBounds_toArray, List.set_cons_zero, List.set_cons_succ])
                have hba := ((Below.refl w6.heap.size w6).alloc (Nat.le_refl _) (.cells #[.slice none 0 0, .slice none 0 0, .slice none 0 0] 41))
                have P10 := Lib.hid (Blk.new w6 41 #[.slice none 0 0, .slice none 0 0, .slice none 0 0])
                have HP10 := Lib.hid (show q < w6.heap.size from HQL_w6.out)
                have HBx := Lib.hid (HB6.out.below hba)
                have HLx := Lib.hid (HL6.out.trans (hba.mono HB6.out.2.1.lo.2))
                clear hba HB6 HL6
                generalize w6.alloc (Obj.cells #[.slice none 0 0, .slice none 0 0, .slice none 0 0] 41) = wx at *
                generalize w6.heap.size = p6 at *
                have HGP := Lib.hid (show g < p6 by have := HP10.out; have := HQB.out; omega)
                refine wpAnyH_ready (rs := [11]) (by kernel_rfl) (by simp) ?_
                refine reg_each (o := _) rfl (fun K hK => ?_) ?_
                · skip
                  have kP := P10.out
                  have y0 : wx.cell? ⟨p6, 0, none⟩ = some (.slice none 0 0) := by rw [kP.cell]; rfl
                  have y1 : wx.cell? ⟨p6, 1, none⟩ = some (.slice none 0 0) := by rw [kP.cell]; rfl
                  have y2 : wx.cell? ⟨p6, 2, none⟩ = some (.slice none 0 0) := by rw [kP.cell]; rfl
                  have f0 := kP.frozen 0
                  have f1 := kP.frozen 1
                  have f2 := kP.frozen 2
                  have zP := kP.lt
                  have HSKc := Lib.hid hHeld.1
                  go_simp
                  refine hK.out _ _ ?_ (fun hHeld2 => ?_)
                  · exact ((hHeld.set HP10.out HGP.out 0 _).set HP10.out HGP.out 1 _).set HP10.out HGP.out 2 _
                  clear hK K hHeld
                  have hHeld := hHeld2
                  clear hHeld2
                  (try simp only [Act.put, List.setIfInBounds_toArray, List.set_cons_zero, List.set_cons_succ])
                  refine reg_take (i := 12) (oi := _) (v := ?_) rfl (by kernel_rfl) (by kernel_rfl) (by kernel_rfl) (fun _ _ _ h => h) (by rfl) ?_ (by assumption) ?_
                  rotate_left
                  · intro w hSw; (try dsimp only at hSw); have d0 : w.cell? ⟨q, 0, none⟩ = some (.slice A1 l1 c1) := (by rw [hSw.1.cell]; rfl); have d1 : w.cell? ⟨q, 1, none⟩ = some (.slice A2 l2 c2) := (by rw [hSw.1.cell]; rfl); have d2 : w.cell? ⟨q, 2, none⟩ = some (.slice A3 l3 c3) := (by rw [hSw.1.cell]; rfl); have x0 := hSw.2.1.k; have x1 := hSw.2.1.n; have x2 := hSw.2.1.d; have x3 := hSw.2.1.b; have x4 := hSw.2.1.s; have x5 := hSw.2.1.p; have zg := hSw.2.2; have zq := hSw.1.lt; go_simp; try with_reducible rfl
                  (try simp only [Act.put, List.setIfInBounds_toArray, List.set_cons_zero, List.set_cons_succ])
                  refine wpAnyH_done (by kernel_rfl) ?_ _
                  refine NoPanic.normal ?_
                  have HSK := Lib.hid (show Blk wx q 41 #[.slice A1 l1 c1, .slice A2 l2 c2, .slice A3 l3 c3] from HSKc.out)
                  clear hHeld y0 y1 y2 f0 f1 f2 zP
                  have hB7 := both_end HBx.out.2 HBx.out.1 kP
                  have kP3 := ((kP.put 0 (.slice B1 x6.now.length e1) rfl).put 1 (.slice B2 x6.sure.length e2) rfl).put 2 (.slice B3 x6.T.length e3) rfl
                  have hL7 := below_set3 (a := .slice B1 x6.now.length e1) (b := .slice B2 x6.sure.length e2) (c := .slice B3 x6.T.length e3) HLx.out (show B ≤ p6 by have := HP10.out; have := HQB.out; omega)
                  have HB7 := Lib.hid hB7
                  have HL7 := Lib.hid hL7
                  have HP7 := Lib.hid kP3
                  skip
                  have HK7 := Lib.hid (show Blk (((wx.setCell ⟨p6, 0, none⟩ (.slice B1 x6.now.length e1)).setCell ⟨p6, 1, none⟩ (.slice B2 x6.sure.length e2)).setCell ⟨p6, 2, none⟩ (.slice B3 x6.T.length e3)) q 41 #[.slice A1 l1 c1, .slice A2 l2 c2, .slice A3 l3 c3] from blk_far (blk_far (blk_far HSK.out 0 _ (by have := HP10.out; omega)) 1 _ (by have := HP10.out; omega)) 2 _ (by have := HP10.out; omega))
                  clear hB7 hL7 kP kP3 HBx HLx P10 HSK
                  generalize ((wx.setCell ⟨p6, 0, none⟩ (.slice B1 x6.now.length e1)).setCell ⟨p6, 1, none⟩ (.slice B2 x6.sure.length e2)).setCell ⟨p6, 2, none⟩ (.slice B3 x6.T.length e3) = w7 at *
                  have y0 : w7.cell? ⟨p6, 0, none⟩ = some (.slice B1 x6.now.length e1) := by rw [HP7.out.cell]; rfl
                  have y1 : w7.cell? ⟨p6, 1, none⟩ = some (.slice B2 x6.sure.length e2) := by rw [HP7.out.cell]; rfl
                  have y2 : w7.cell? ⟨p6, 2, none⟩ = some (.slice B3 x6.T.length e3) := by rw [HP7.out.cell]; rfl
                  have z0 : w7.cell? ⟨q, 0, none⟩ = some (.slice A1 l1 c1) := by rw [HK7.out.cell]; rfl
                  have f0 := HK7.out.frozen 0
                  have z1 : w7.cell? ⟨q, 1, none⟩ = some (.slice A2 l2 c2) := by rw [HK7.out.cell]; rfl
                  have f1 := HK7.out.frozen 1
                  have z2 : w7.cell? ⟨q, 2, none⟩ = some (.slice A3 l3 c3) := by rw [HK7.out.cell]; rfl
                  have f2 := HK7.out.frozen 2
                  have zy := HP7.out.lt
                  have zq := HK7.out.lt
                  go_upto_region 12 with (fail)
                  have hB8 := both_end HB7.out.2 HB7.out.1 HK7.out
                  have hL8 := below_set3 (a := .slice B1 x6.now.length e1) (b := .slice B2 x6.sure.length e2) (c := .slice B3 x6.T.length e3) HL7.out HQB.out
                  have kQ3 := ((HK7.out.put 0 (.slice B1 x6.now.length e1) rfl).put 1 (.slice B2 x6.sure.length e2) rfl).put 2 (.slice B3 x6.T.length e3) rfl
                  have HB8 := Lib.hid hB8
                  have HL8 := Lib.hid hL8
                  have HK8 := Lib.hid kQ3
                  clear y0 y1 y2 z0 z1 z2 f0 f1 f2 zy zq hB8 hL8 kQ3 HB7 HL7 HK7 HP7
                  generalize ((w7.setCell ⟨q, 0, none⟩ (.slice B1 x6.now.length e1)).setCell ⟨q, 1, none⟩ (.slice B2 x6.sure.length e2)).setCell ⟨q, 2, none⟩ (.slice B3 x6.T.length e3) = w8 at *
                  have HF8 := Lib.hid (show RdF w8 (.slice B1 x6.now.length e1) x6.now from by obtain ⟨u1, u2, u3, e, g1, g2, g3⟩ := HB8.out.1; cases e; exact g1)
                  refine wp_region_noPanic ?_
                  refine wp_region_held_drew (S := (fun w' => Below w8.heap.size w8 w')) (by kernel_rfl) ?_ (fun hHeld => ?_)
                  · exact below_drewN (Below.refl _ _) 1
                  generalize w8.drew = wd at *
                  refine reg_take (i := 0) (oi := _) (v := ?_) rfl (by kernel_rfl) (by kernel_rfl) (by kernel_rfl) (fun _ _ _ h => h) (by rfl) ?_ (by assumption) ?_
                  rotate_left
                  · intro w hSw; (try dsimp only at hSw); have kQ := HK8.out.below hSw; have d0 : w.cell? ⟨q, 0, none⟩ = some (.slice B1 x6.now.length e1) := (by rw [kQ.cell]; rfl); have d1 : w.cell? ⟨q, 1, none⟩ = some (.slice B2 x6.sure.length e2) := (by rw [kQ.cell]; rfl); have d2 : w.cell? ⟨q, 2, none⟩ = some (.slice B3 x6.T.length e3) := (by rw [kQ.cell]; rfl); have zq := kQ.lt; go_simp; try with_reducible rfl
                  (try simp only [Act.put, List.setIfInBounds_toArray, List.set_cons_zero, List.set_cons_succ])
                  refine reg_take (i := 1) (oi := _) (v := ?_) rfl (by kernel_rfl) (by kernel_rfl) (by kernel_rfl) (fun _ _ _ h => h) (by rfl) ?_ (by assumption) ?_
                  rotate_left
                  · intro w hSw; (try dsimp only at hSw); have kQ := HK8.out.below hSw; have d0 : w.cell? ⟨q, 0, none⟩ = some (.slice B1 x6.now.length e1) := (by rw [kQ.cell]; rfl); have d1 : w.cell? ⟨q, 1, none⟩ = some (.slice B2 x6.sure.length e2) := (by rw [kQ.cell]; rfl); have d2 : w.cell? ⟨q, 2, none⟩ = some (.slice B3 x6.T.length e3) := (by rw [kQ.cell]; rfl); have zq := kQ.lt; go_simp; try with_reducible rfl
                  (try simp only [Act.put, List.setIfInBounds_toArray, List.set_cons_zero, List.set_cons_succ])
                  refine reg_take (i := 2) (oi := _) (v := ?_) rfl (by kernel_rfl) (by kernel_rfl) (by kernel_rfl) (fun _ _ _ h => h) (by rfl) ?_ (by assumption) ?_
                  rotate_left
                  · intro w hSw; (try dsimp only at hSw); have kQ := HK8.out.below hSw; have d0 : w.cell? ⟨q, 0, none⟩ = some (.slice B1 x6.now.length e1) := (by rw [kQ.cell]; rfl); have d1 : w.cell? ⟨q, 1, none⟩ = some (.slice B2 x6.sure.length e2) := (by rw [kQ.cell]; rfl); have d2 : w.cell? ⟨q, 2, none⟩ = some (.slice B3 x6.T.length e3) := (by rw [kQ.cell]; rfl); have zq := kQ.lt; go_simp; try with_reducible rfl
                  (try simp only [Act.put, List.setIfInBounds_toArray, List.set_cons_zero, List.set_cons_succ])
                  refine reg_take (i := 3) (oi := _) (v := ?_) rfl (by kernel_rfl) (by kernel_rfl) (by kernel_rfl) (fun _ _ _ h => h) (by rfl) ?_ (by assumption) ?_
                  rotate_left
                  · intro w hSw; (try dsimp only at hSw); have kQ := HK8.out.below hSw; have d0 : w.cell? ⟨q, 0, none⟩ = some (.slice B1 x6.now.length e1) := (by rw [kQ.cell]; rfl); have d1 : w.cell? ⟨q, 1, none⟩ = some (.slice B2 x6.sure.length e2) := (by rw [kQ.cell]; rfl); have d2 : w.cell? ⟨q, 2, none⟩ = some (.slice B3 x6.T.length e3) := (by rw [kQ.cell]; rfl); have zq := kQ.lt; go_simp; try with_reducible rfl
                  (try simp only [Act.put, List.setIfInBounds_toArray, List.set_cons_zero, List.set_cons_succ])
                  refine reg_take (i := 4) (oi := _) (v := ?_) rfl (by kernel_rfl) (by kernel_rfl) (by kernel_rfl) (fun _ _ _ h => h) (by rfl) ?_ (by assumption) ?_
                  rotate_left
                  · intro w hSw; (try dsimp only at hSw); have kQ := HK8.out.below hSw; have d0 : w.cell? ⟨q, 0, none⟩ = some (.slice B1 x6.now.length e1) := (by rw [kQ.cell]; rfl); have d1 : w.cell? ⟨q, 1, none⟩ = some (.slice B2 x6.sure.length e2) := (by rw [kQ.cell]; rfl); have d2 : w.cell? ⟨q, 2, none⟩ = some (.slice B3 x6.T.length e3) := (by rw [kQ.cell]; rfl); have zq := kQ.lt; go_simp; try with_reducible rfl
                  (try simp only [Act.put, List.setIfInBounds_toArray, List.set_cons_zero, List.set_cons_succ])
                  refine reg_take (i := 5) (oi := _) (v := ?_) rfl (by kernel_rfl) (by kernel_rfl) (by kernel_rfl) (fun _ _ _ h => h) (by rfl) ?_ (by assumption) ?_
                  rotate_left
                  · intro w hSw; (try dsimp only at hSw); have kQ := HK8.out.below hSw; have d0 : w.cell? ⟨q, 0, none⟩ = some (.slice B1 x6.now.length e1) := (by rw [kQ.cell]; rfl); have d1 : w.cell? ⟨q, 1, none⟩ = some (.slice B2 x6.sure.length e2) := (by rw [kQ.cell]; rfl); have d2 : w.cell? ⟨q, 2, none⟩ = some (.slice B3 x6.T.length e3) := (by rw [kQ.cell]; rfl); have zq := kQ.lt; go_simp; try with_reducible rfl
                  (try simp only [Act.put, List.setIfInBounds_toArray, List.set_cons_zero, List.set_cons_succ])
                  refine wpAnyH_ready (rs := [6]) (by kernel_rfl) (by simp) ?_
                  refine reg_each (o := _) rfl (fun K hK => ?_) ?_
                  · skip
                    go_simp
                    refine (same_walk B d x6 _ _ (HB8.out.2.below hHeld) (HF8.out.kept (KeptY.below hHeld))).mono ?_
                    rintro r w10 ⟨rfl, hb10⟩
                    have BE10 := Lib.hid (below_trans hHeld hb10)
                    clear hb10
                    go_wp2_with (fail)
                    refine hK.out _ _ ?_ (fun hHeld2 => ?_)
                    · exact BE10.out
                    clear hK K hHeld
                    have hHeld := hHeld2
                    clear hHeld2
                    (try simp only [Act.put, List.setIfInBounds_toArray, List.set_cons_zero, List.set_cons_succ])
                    refine reg_take (i := 7) (oi := _) (v := ?_) rfl (by kernel_rfl) (by kernel_rfl) (by kernel_rfl) (fun _ _ _ h => h) (by rfl) ?_ (by assumption) ?_
                    rotate_left
                    · intro w hSw; (try dsimp only at hSw); have kQ := HK8.out.below hSw; have d0 : w.cell? ⟨q, 0, none⟩ = some (.slice B1 x6.now.length e1) := (by rw [kQ.cell]; rfl); have d1 : w.cell? ⟨q, 1, none⟩ = some (.slice B2 x6.sure.length e2) := (by rw [kQ.cell]; rfl); have d2 : w.cell? ⟨q, 2, none⟩ = some (.slice B3 x6.T.length e3) := (by rw [kQ.cell]; rfl); have zq := kQ.lt; go_simp; try with_reducible rfl
                    (try simp only [Act.put, List.setIfInBounds_toArray, List.set_cons_zero, List.set_cons_succ])
                    refine reg_take (i := 8) (oi := _) (v := ?_) rfl (by kernel_rfl) (by kernel_rfl) (by kernel_rfl) (fun _ _ _ h => h) (by rfl) ?_ (by assumption) ?_
                    rotate_left
                    · intro w hSw; (try dsimp only at hSw); have kQ := HK8.out.below hSw; have d0 : w.cell? ⟨q, 0, none⟩ = some (.slice B1 x6.now.length e1) := (by rw [kQ.cell]; rfl); have d1 : w.cell? ⟨q, 1, none⟩ = some (.slice B2 x6.sure.length e2) := (by rw [kQ.cell]; rfl); have d2 : w.cell? ⟨q, 2, none⟩ = some (.slice B3 x6.T.length e3) := (by rw [kQ.cell]; rfl); have zq := kQ.lt; go_simp; try with_reducible rfl
                    (try simp only [Act.put, List.setIfInBounds_toArray, List.set_cons_zero, List.set_cons_succ])
                    refine reg_take (i := 9) (oi := _) (v := ?_) rfl (by kernel_rfl) (by kernel_rfl) (by kernel_rfl) (fun _ _ _ h => h) (by rfl) ?_ (by assumption) ?_
                    rotate_left
                    · intro w hSw; (try dsimp only at hSw); have kQ := HK8.out.below hSw; have d0 : w.cell? ⟨q, 0, none⟩ = some (.slice B1 x6.now.length e1) := (by rw [kQ.cell]; rfl); have d1 : w.cell? ⟨q, 1, none⟩ = some (.slice B2 x6.sure.length e2) := (by rw [kQ.cell]; rfl); have d2 : w.cell? ⟨q, 2, none⟩ = some (.slice B3 x6.T.length e3) := (by rw [kQ.cell]; rfl); have zq := kQ.lt; go_simp; try with_reducible rfl
                    (try simp only [Act.put, List.setIfInBounds_toArray, List.set_cons_zero, List.set_cons_succ])
                    refine reg_take (i := 10) (oi := _) (v := ?_) rfl (by kernel_rfl) (by kernel_rfl) (by kernel_rfl) (fun _ _ _ h => h) (by rfl) ?_ (by assumption) ?_
                    rotate_left
                    · intro w hSw; (try dsimp only at hSw); have kQ := HK8.out.below hSw; have d0 : w.cell? ⟨q, 0, none⟩ = some (.slice B1 x6.now.length e1) := (by rw [kQ.cell]; rfl); have d1 : w.cell? ⟨q, 1, none⟩ = some (.slice B2 x6.sure.length e2) := (by rw [kQ.cell]; rfl); have d2 : w.cell? ⟨q, 2, none⟩ = some (.slice B3 x6.T.length e3) := (by rw [kQ.cell]; rfl); have zq := kQ.lt; go_simp; try with_reducible rfl
                    (try simp only [Act.put, List.setIfInBounds_toArray, List.set_cons_zero, List.set_cons_succ])
                    refine reg_take (i := 12) (oi := _) (v := ?_) rfl (by kernel_rfl) (by kernel_rfl) (by kernel_rfl) (fun _ _ _ h => h) (by rfl) ?_ (by assumption) ?_
                    rotate_left
                    · intro w hSw; (try dsimp only at hSw); have kQ := HK8.out.below hSw; have d0 : w.cell? ⟨q, 0, none⟩ = some (.slice B1 x6.now.length e1) := (by rw [kQ.cell]; rfl); have d1 : w.cell? ⟨q, 1, none⟩ = some (.slice B2 x6.sure.length e2) := (by rw [kQ.cell]; rfl); have d2 : w.cell? ⟨q, 2, none⟩ = some (.slice B3 x6.T.length e3) := (by rw [kQ.cell]; rfl); have zq := kQ.lt; go_simp; try with_reducible rfl
                    (try simp only [Act.put, List.setIfInBounds_toArray, List.set_cons_zero, List.set_cons_succ])
                    refine reg_take (i := 13) (oi := _) (v := ?_) rfl (by kernel_rfl) (by kernel_rfl) (by kernel_rfl) (fun _ _ _ h => h) (by rfl) ?_ (by assumption) ?_
                    rotate_left
                    · intro w hSw; (try dsimp only at hSw); have kQ := HK8.out.below hSw; have d0 : w.cell? ⟨q, 0, none⟩ = some (.slice B1 x6.now.length e1) := (by rw [kQ.cell]; rfl); have d1 : w.cell? ⟨q, 1, none⟩ = some (.slice B2 x6.sure.length e2) := (by rw [kQ.cell]; rfl); have d2 : w.cell? ⟨q, 2, none⟩ = some (.slice B3 x6.T.length e3) := (by rw [kQ.cell]; rfl); have zq := kQ.lt; go_simp; try with_reducible rfl
                    (try simp only [Act.put, List.setIfInBounds_toArray, List.set_cons_zero, List.set_cons_succ])
                    refine reg_take (i := 14) (oi := _) (v := ?_) rfl (by kernel_rfl) (by kernel_rfl) (by kernel_rfl) (fun _ _ _ h => h) (by rfl) ?_ (by assumption) ?_
                    rotate_left
                    · intro w hSw; (try dsimp only at hSw); have kQ := HK8.out.below hSw; have d0 : w.cell? ⟨q, 0, none⟩ = some (.slice B1 x6.now.length e1) := (by rw [kQ.cell]; rfl); have d1 : w.cell? ⟨q, 1, none⟩ = some (.slice B2 x6.sure.length e2) := (by rw [kQ.cell]; rfl); have d2 : w.cell? ⟨q, 2, none⟩ = some (.slice B3 x6.T.length e3) := (by rw [kQ.cell]; rfl); have zq := kQ.lt; go_simp; try with_reducible rfl
                    (try simp only [Act.put, List.setIfInBounds_toArray, List.set_cons_zero, List.set_cons_succ])
                    refine wpAnyH_ready (rs := [11]) (by kernel_rfl) (by simp) ?_
                    refine reg_each (o := _) rfl (fun K hK => ?_) ?_
                    · skip
                      go_simp
                      refine (pending_walk B d x6.now x6.sure x6.T _ (HB8.out.2.below hHeld).1).mono ?_
                      rintro r w11 ⟨rfl, rfl⟩
                      have BE11 := Lib.hid hHeld
                      go_wp2_with (fail)
                      refine hK.out _ _ ?_ (fun hHeld2 => ?_)
                      · exact BE11.out
                      clear hK K hHeld
                      have hHeld := hHeld2
                      clear hHeld2
                      (try simp only [Act.put, List.setIfInBounds_toArray, List.set_cons_zero, List.set_cons_succ])
                      refine reg_take (i := 15) (oi := _) (v := ?_) rfl (by kernel_rfl) (by kernel_rfl) (by kernel_rfl) (fun _ _ _ h => h) (by rfl) ?_ (by assumption) ?_
                      rotate_left
                      · intro w hSw; (try dsimp only at hSw); have kQ := HK8.out.below hSw; have d0 : w.cell? ⟨q, 0, none⟩ = some (.slice B1 x6.now.length e1) := (by rw [kQ.cell]; rfl); have d1 : w.cell? ⟨q, 1, none⟩ = some (.slice B2 x6.sure.length e2) := (by rw [kQ.cell]; rfl); have d2 : w.cell? ⟨q, 2, none⟩ = some (.slice B3 x6.T.length e3) := (by rw [kQ.cell]; rfl); have zq := kQ.lt; go_simp; try with_reducible rfl
                      (try simp only [Act.put, List.setIfInBounds_toArray, List.set_cons_zero, List.set_cons_succ])
                      refine reg_take (i := 16) (oi := _) (v := ?_) rfl (by kernel_rfl) (by kernel_rfl) (by kernel_rfl) (fun _ _ _ h => h) (by rfl) ?_ (by assumption) ?_
                      rotate_left
                      · intro w hSw; (try dsimp only at hSw); have kQ := HK8.out.below hSw; have d0 : w.cell? ⟨q, 0, none⟩ = some (.slice B1 x6.now.length e1) := (by rw [kQ.cell]; rfl); have d1 : w.cell? ⟨q, 1, none⟩ = some (.slice B2 x6.sure.length e2) := (by rw [kQ.cell]; rfl); have d2 : w.cell? ⟨q, 2, none⟩ = some (.slice B3 x6.T.length e3) := (by rw [kQ.cell]; rfl); have zq := kQ.lt; go_simp; try with_reducible rfl
                      (try simp only [Act.put, List.setIfInBounds_toArray, List.set_cons_zero, List.set_cons_succ])
                      refine wpAnyH_done (by kernel_rfl) ?_ _
                      refine NoPanic.normal ?_
                      clear hHeld BE10
                      have HL11 := Lib.hid (HL8.out.trans (BE11.out.mono HB8.out.2.1.lo.2))
                      have HA11 := Lib.hid ((HA0.out.below HL11.out hgB))
                      have x2 := HA11.out.d
                      have zg : g < w11.heap.size := Nat.lt_of_lt_of_le hgB (HB8.out.2.below BE11.out).1.lo.2
                      have RW := read_walk B d x6.now x6.sure x6.T a.dst w11 (HB8.out.2.below BE11.out).1 (fun bs e => (HB8.out.2.2.now.look e).2)
                      go_upto_region 14 with (fail)
                      go_wp2_with (fail)
                      refine Calls.mono RW ?_
                      rintro y w12 ⟨v12, rfl, _, hb12⟩
                      have BE12 := Lib.hid (below_trans BE11.out hb12)
                      clear RW hb12 x2 zg BE11 HA11 HL11
                      have HL12 := Lib.hid (HL8.out.trans (BE12.out.mono HB8.out.2.1.lo.2))
                      have HA12 := Lib.hid (HA0.out.below HL12.out hgB)
                      have x2 := HA12.out.d
                      have zg : g < w12.heap.size := Nat.lt_of_lt_of_le hgB (HB8.out.2.below BE12.out).1.lo.2
                      obtain ⟨c, hc⟩ : ∃ c, checkN x6.now a.dst.data.toList = c := ⟨_, rfl⟩
                      have HC := Lib.hid hc
                      rw [hc]
                      have NW := docnamed_walk a.dst HAC.out.d w12
                      clear hc
                      go_upto_region 16 with (fail)
                      go_wp2_with (fail)
                      refine Calls.mono NW ?_
                      rintro y w13 ⟨rfl, hb13⟩
                      have BE13 := Lib.hid (below_trans BE12.out hb13)
                      clear NW hb13 x2 zg BE12 HA12 HL12
                      have HL13 := Lib.hid (HL8.out.trans (BE13.out.mono HB8.out.2.1.lo.2))
                      have HG13 := Lib.hid (show ErrType w13 from (HL13.out.cell (p := ⟨0, 0, none⟩) HGB.out).trans HG1.out)
                      cases hnm : namedF a.dst.data.toList with
                      | false =>
                        obtain rfl : c = 11 := by have := HC.out; unfold checkN at this; rw [hnm] at this; exact this.symm
                        have NM := num_errI 11 w13 HG13.out
                        go_upto_region 20 with (fail)
                        go_wp2_with (fail)
                        refine Calls.mono NM ?_
                        rintro y w15 ⟨rfl, hb15⟩
                        have BE15 := Lib.hid (below_trans BE13.out hb15)
                        have HNX := Lib.hid (show LoX B d q w1 w15 from ⟨x6, _, _, _, HK8.out.below BE15.out, HB8.out.below BE15.out, HL8.out.trans (BE15.out.mono HB8.out.2.1.lo.2)⟩)
                        clear NM hb15
                        go_wp2_with (fail)
                        go_roundw
                        case rel => exact ⟨i + 1, by go_num, by omega, HNX.out⟩
                        case measure => simp [intOf]; omega
                      | true =>
                        go_upto_region 18 with (fail)
                        refine wp_region_noPanic ?_
                        refine wp_region_held_drew (S := (fun w' => Below w13.heap.size w13 w')) (by kernel_rfl) ?_ (fun hHeld => ?_)
                        · exact below_drewN (Below.refl _ _) 1
                        generalize w13.drew = wd at *
                        refine reg_take (i := 0) (oi := _) (v := ?_) rfl (by kernel_rfl) (by kernel_rfl) (by kernel_rfl) (fun _ _ _ h => h) (by rfl) ?_ (by assumption) ?_
                        rotate_left
                        · intro w hSw; (try dsimp only at hSw); have kQ := HK8.out.below (below_trans BE13.out hSw); have d0 : w.cell? ⟨q, 0, none⟩ = some (.slice B1 x6.now.length e1) := (by rw [kQ.cell]; rfl); have d1 : w.cell? ⟨q, 1, none⟩ = some (.slice B2 x6.sure.length e2) := (by rw [kQ.cell]; rfl); have d2 : w.cell? ⟨q, 2, none⟩ = some (.slice B3 x6.T.length e3) := (by rw [kQ.cell]; rfl); have zq := kQ.lt; have x2 := (HA0.out.below (HL13.out.trans (hSw.mono (HB8.out.2.below BE13.out).1.lo.2)) hgB).d; have zg : g < w.heap.size := Nat.lt_of_lt_of_le hgB (Nat.le_trans (HB8.out.2.below BE13.out).1.lo.2 hSw.size); go_simp; try with_reducible rfl
                        (try simp only [Act.put, List.setIfInBounds_toArray, List.set_cons_zero, List.set_cons_succ])
                        refine reg_take (i := 1) (oi := _) (v := ?_) rfl (by kernel_rfl) (by kernel_rfl) (by kernel_rfl) (fun _ _ _ h => h) (by rfl) ?_ (by assumption) ?_
                        rotate_left
                        · intro w hSw; (try dsimp only at hSw); have kQ := HK8.out.below (below_trans BE13.out hSw); have d0 : w.cell? ⟨q, 0, none⟩ = some (.slice B1 x6.now.length e1) := (by rw [kQ.cell]; rfl); have d1 : w.cell? ⟨q, 1, none⟩ = some (.slice B2 x6.sure.length e2) := (by rw [kQ.cell]; rfl); have d2 : w.cell? ⟨q, 2, none⟩ = some (.slice B3 x6.T.length e3) := (by rw [kQ.cell]; rfl); have zq := kQ.lt; have x2 := (HA0.out.below (HL13.out.trans (hSw.mono (HB8.out.2.below BE13.out).1.lo.2)) hgB).d; have zg : g < w.heap.size := Nat.lt_of_lt_of_le hgB (Nat.le_trans (HB8.out.2.below BE13.out).1.lo.2 hSw.size); go_simp; try with_reducible rfl
                        (try simp only [Act.put, List.setIfInBounds_toArray, List.set_cons_zero, List.set_cons_succ])
                        refine reg_take (i := 2) (oi := _) (v := ?_) rfl (by kernel_rfl) (by kernel_rfl) (by kernel_rfl) (fun _ _ _ h => h) (by rfl) ?_ (by assumption) ?_
                        rotate_left
                        · intro w hSw; (try dsimp only at hSw); have kQ := HK8.out.below (below_trans BE13.out hSw); have d0 : w.cell? ⟨q, 0, none⟩ = some (.slice B1 x6.now.length e1) := (by rw [kQ.cell]; rfl); have d1 : w.cell? ⟨q, 1, none⟩ = some (.slice B2 x6.sure.length e2) := (by rw [kQ.cell]; rfl); have d2 : w.cell? ⟨q, 2, none⟩ = some (.slice B3 x6.T.length e3) := (by rw [kQ.cell]; rfl); have zq := kQ.lt; have x2 := (HA0.out.below (HL13.out.trans (hSw.mono (HB8.out.2.below BE13.out).1.lo.2)) hgB).d; have zg : g < w.heap.size := Nat.lt_of_lt_of_le hgB (Nat.le_trans (HB8.out.2.below BE13.out).1.lo.2 hSw.size); go_simp; try with_reducible rfl
                        (try simp only [Act.put, List.setIfInBounds_toArray, List.set_cons_zero, List.set_cons_succ])
                        refine reg_take (i := 3) (oi := _) (v := ?_) rfl (by kernel_rfl) (by kernel_rfl) (by kernel_rfl) (fun _ _ _ h => h) (by rfl) ?_ (by assumption) ?_
                        rotate_left
                        · intro w hSw; (try dsimp only at hSw); have kQ := HK8.out.below (below_trans BE13.out hSw); have d0 : w.cell? ⟨q, 0, none⟩ = some (.slice B1 x6.now.length e1) := (by rw [kQ.cell]; rfl); have d1 : w.cell? ⟨q, 1, none⟩ = some (.slice B2 x6.sure.length e2) := (by rw [kQ.cell]; rfl); have d2 : w.cell? ⟨q, 2, none⟩ = some (.slice B3 x6.T.length e3) := (by rw [kQ.cell]; rfl); have zq := kQ.lt; have x2 := (HA0.out.below (HL13.out.trans (hSw.mono (HB8.out.2.below BE13.out).1.lo.2)) hgB).d; have zg : g < w.heap.size := Nat.lt_of_lt_of_le hgB (Nat.le_trans (HB8.out.2.below BE13.out).1.lo.2 hSw.size); go_simp; try with_reducible rfl
                        (try simp only [Act.put, List.setIfInBounds_toArray, List.set_cons_zero, List.set_cons_succ])
                        refine reg_take (i := 4) (oi := _) (v := ?_) rfl (by kernel_rfl) (by kernel_rfl) (by kernel_rfl) (fun _ _ _ h => h) (by rfl) ?_ (by assumption) ?_
                        rotate_left
                        · intro w hSw; (try dsimp only at hSw); have kQ := HK8.out.below (below_trans BE13.out hSw); have d0 : w.cell? ⟨q, 0, none⟩ = some (.slice B1 x6.now.length e1) := (by rw [kQ.cell]; rfl); have d1 : w.cell? ⟨q, 1, none⟩ = some (.slice B2 x6.sure.length e2) := (by rw [kQ.cell]; rfl); have d2 : w.cell? ⟨q, 2, none⟩ = some (.slice B3 x6.T.length e3) := (by rw [kQ.cell]; rfl); have zq := kQ.lt; have x2 := (HA0.out.below (HL13.out.trans (hSw.mono (HB8.out.2.below BE13.out).1.lo.2)) hgB).d; have zg : g < w.heap.size := Nat.lt_of_lt_of_le hgB (Nat.le_trans (HB8.out.2.below BE13.out).1.lo.2 hSw.size); go_simp; try with_reducible rfl
                        (try simp only [Act.put, List.setIfInBounds_toArray, List.set_cons_zero, List.set_cons_succ])
                        refine reg_take (i := 5) (oi := _) (v := ?_) rfl (by kernel_rfl) (by kernel_rfl) (by kernel_rfl) (fun _ _ _ h => h) (by rfl) ?_ (by assumption) ?_
                        rotate_left
                        · intro w hSw; (try dsimp only at hSw); have kQ := HK8.out.below (below_trans BE13.out hSw); have d0 : w.cell? ⟨q, 0, none⟩ = some (.slice B1 x6.now.length e1) := (by rw [kQ.cell]; rfl); have d1 : w.cell? ⟨q, 1, none⟩ = some (.slice B2 x6.sure.length e2) := (by rw [kQ.cell]; rfl); have d2 : w.cell? ⟨q, 2, none⟩ = some (.slice B3 x6.T.length e3) := (by rw [kQ.cell]; rfl); have zq := kQ.lt; have x2 := (HA0.out.below (HL13.out.trans (hSw.mono (HB8.out.2.below BE13.out).1.lo.2)) hgB).d; have zg : g < w.heap.size := Nat.lt_of_lt_of_le hgB (Nat.le_trans (HB8.out.2.below BE13.out).1.lo.2 hSw.size); go_simp; try with_reducible rfl
                        (try simp only [Act.put, List.setIfInBounds_toArray, List.set_cons_zero, List.set_cons_succ])
                        refine reg_take (i := 6) (oi := _) (v := ?_) rfl (by kernel_rfl) (by kernel_rfl) (by kernel_rfl) (fun _ _ _ h => h) (by rfl) ?_ (by assumption) ?_
                        rotate_left
                        · intro w hSw; (try dsimp only at hSw); have kQ := HK8.out.below (below_trans BE13.out hSw); have d0 : w.cell? ⟨q, 0, none⟩ = some (.slice B1 x6.now.length e1) := (by rw [kQ.cell]; rfl); have d1 : w.cell? ⟨q, 1, none⟩ = some (.slice B2 x6.sure.length e2) := (by rw [kQ.cell]; rfl); have d2 : w.cell? ⟨q, 2, none⟩ = some (.slice B3 x6.T.length e3) := (by rw [kQ.cell]; rfl); have zq := kQ.lt; have x2 := (HA0.out.below (HL13.out.trans (hSw.mono (HB8.out.2.below BE13.out).1.lo.2)) hgB).d; have zg : g < w.heap.size := Nat.lt_of_lt_of_le hgB (Nat.le_trans (HB8.out.2.below BE13.out).1.lo.2 hSw.size); go_simp; try with_reducible rfl
                        (try simp only [Act.put, List.setIfInBounds_toArray, List.set_cons_zero, List.set_cons_succ])
                        refine wpAnyH_ready (rs := [7]) (by kernel_rfl) (by simp) ?_
                        refine reg_each (o := _) rfl (fun K hK => ?_) ?_
                        · skip
                          go_simp
                          refine (find_walk _ x6.now a.dst.data.toList _ (HF8.out.kept (KeptY.below (below_trans BE13.out hHeld))) HB8.out.2.1.an.2).mono ?_
                          rintro r w14 ⟨rr, rfl, rfl, hrr⟩
                          have BE14 := Lib.hid (below_trans BE13.out hHeld)
                          have HRR := Lib.hid hrr
                          have HHE := Lib.hid hHeld
                          clear hrr
                          go_wp2_with (fail)
                          refine hK.out _ _ ?_ (fun hHeld2 => ?_)
                          · exact HHE.out
                          clear hK K hHeld
                          have hHeld := hHeld2
                          clear hHeld2
                          (try simp only [Act.put, List.setIfInBounds_toArray, List.set_cons_zero, List.set_cons_succ])
                          refine reg_take (i := 8) (oi := _) (v := ?_) rfl (by kernel_rfl) (by kernel_rfl) (by kernel_rfl) (fun _ _ _ h => h) (by rfl) ?_ (by assumption) ?_
                          rotate_left
                          · intro w hSw; (try dsimp only at hSw); have kQ := HK8.out.below (below_trans BE13.out hSw); have d0 : w.cell? ⟨q, 0, none⟩ = some (.slice B1 x6.now.length e1) := (by rw [kQ.cell]; rfl); have d1 : w.cell? ⟨q, 1, none⟩ = some (.slice B2 x6.sure.length e2) := (by rw [kQ.cell]; rfl); have d2 : w.cell? ⟨q, 2, none⟩ = some (.slice B3 x6.T.length e3) := (by rw [kQ.cell]; rfl); have zq := kQ.lt; have x2 := (HA0.out.below (HL13.out.trans (hSw.mono (HB8.out.2.below BE13.out).1.lo.2)) hgB).d; have zg : g < w.heap.size := Nat.lt_of_lt_of_le hgB (Nat.le_trans (HB8.out.2.below BE13.out).1.lo.2 hSw.size); go_simp; try with_reducible rfl
                          (try simp only [Act.put, List.setIfInBounds_toArray, List.set_cons_zero, List.set_cons_succ])
                          refine wpAnyH_done (by kernel_rfl) ?_ _
                          refine NoPanic.normal ?_
                          clear hHeld HHE
                          have HG14 := Lib.hid (show ErrType w14 from ((HL8.out.trans (BE14.out.mono HB8.out.2.1.lo.2)).cell (p := ⟨0, 0, none⟩) HGB.out).trans HG1.out)
                          rcases HRR.out with ⟨rfl, hln⟩ | ⟨kk, ff, rfl, _, _, hls⟩
                          · obtain rfl : c = 8 := by have := HC.out; unfold checkN at this; rw [if_pos hnm, hln] at this; exact this.symm
                            clear hnm hln HC HRR
                            have NM := num_errI 8 w14 HG14.out
                            go_upto_region 20 with (fail)
                            go_wp2_with (fail)
                            refine Calls.mono NM ?_
                            rintro y w15 ⟨rfl, hb15⟩
                            have BE15 := Lib.hid (below_trans BE14.out hb15)
                            have HNX := Lib.hid (show LoX B d q w1 w15 from ⟨x6, _, _, _, HK8.out.below BE15.out, HB8.out.below BE15.out, HL8.out.trans (BE15.out.mono HB8.out.2.1.lo.2)⟩)
                            clear NM hb15
                            go_wp2_with (fail)
                            go_roundw
                            case rel => exact ⟨i + 1, by go_num, by omega, HNX.out⟩
                            case measure => simp [intOf]; omega
                          · obtain rfl : c = 0 := by have := HC.out; unfold checkN at this; rw [if_pos hnm, hls] at this; exact this.symm
                            have kk0 : (0 : Int) ≤ kk := by omega
                            clear hnm hls HC HRR
                            have NM := num_errI 0 w14 HG14.out
                            go_upto_region 20 with (fail)
                            go_wp2_with (fail)
                            refine Calls.mono NM ?_
                            rintro y w15 ⟨rfl, hb15⟩
                            have BE15 := Lib.hid (below_trans BE14.out hb15)
                            have HNX := Lib.hid (show LoX B d q w1 w15 from ⟨x6, _, _, _, HK8.out.below BE15.out, HB8.out.below BE15.out, HL8.out.trans (BE15.out.mono HB8.out.2.1.lo.2)⟩)
                            clear NM hb15
                            go_wp2_with (fail)
                            go_roundw
                            case rel => exact ⟨i + 1, by go_num, by omega, HNX.out⟩
                            case measure => simp [intOf]; omega
                        exact AllReadyH.nil
                    exact AllReadyH.nil
                  exact AllReadyH.nil
                exact AllReadyH.nil
              exact AllReadyH.nil
            refine reg_each (o := _) rfl (fun K hK => ?_) ?_
            · skip
              go_simp
              refine hK.out _ _ ?_ (fun hHeld2 => ?_)
              · exact hHeld.of (Fr.below HBd.out.2.1.lo.2 ((Below.refl wd.heap.size wd).alloc (Nat.le_refl _) (.cells #[.slice none 0 0, .slice none 0 0, .slice none 0 0] 41))) hgB
              clear hK K hHeld
              have hHeld := hHeld2
              clear hHeld2
              (try simp only [Act.put, List.setIfInBounds_toArray, List.set_cons_zero, List.set_cons_succ])
              have hba := ((Below.refl wd.heap.size wd).alloc (Nat.le_refl _) (.cells #[.slice none 0 0, .slice none 0 0, .slice none 0 0] 41))
              have P10 := Lib.hid (Blk.new wd 41 #[.slice none 0 0, .slice none 0 0, .slice none 0 0])
              have HP10 := Lib.hid (show q < wd.heap.size from HQL_wd.out)
              have HBy := Lib.hid (HBd.out.below hba)
              have HLy := Lib.hid (HLd.out.trans (hba.mono HBd.out.2.1.lo.2))
              have HGy := Lib.hid (HGd.out.below hba)
              clear hba HBd HLd
              generalize wd.alloc (Obj.cells #[.slice none 0 0, .slice none 0 0, .slice none 0 0] 41) = wy at *
              generalize wd.heap.size = p6 at *
              have HGP := Lib.hid (show g < p6 by have := HP10.out; have := HQB.out; omega)
              refine wpAnyH_ready (rs := [6]) (by kernel_rfl) (by simp) ?_
              refine reg_each (o := _) rfl (fun K hK => ?_) ?_
              · skip
                go_simp
                refine (TC.out _ HBy.out HGy.out).mono ?_
                rintro r w6 ⟨v6, x6, rfl, hbo, hF6⟩
                obtain ⟨⟨u1, u2, u3, eu, g1, g2, g3⟩, hdk⟩ := hbo
                subst eu
                obtain ⟨B1, e1, rfl⟩ := g1.form
                obtain ⟨B2, e2, rfl⟩ := g2.form
                obtain ⟨B3, e3, rfl⟩ := g3.form
                have HB6 := Lib.hid (show Both B d w6 (.agg #[.slice B1 x6.now.length e1, .slice B2 x6.sure.length e2, .slice B3 x6.T.length e3]) x6 from ⟨⟨_, _, _, rfl, g1, g2, g3⟩, hdk⟩)
                have HF6 := Lib.hid hF6
                clear hF6 g1 g2 g3 hdk
                go_wp2_with (fail)
                refine hK.out _ _ ?_ (fun hHeld2 => ?_)
                · exact hHeld.of HF6.out hgB
                clear hK K hHeld
                have hHeld := hHeld2
                clear hHeld2
                (try simp only [Act.put, List.setIfInBounds_toArray, List.set_cons_zero, List.set_cons_succ])
                have HL6 := Lib.hid (HLy.out.trans HF6.out.1)
                have P10 := Lib.hid (blk_keptY P10.out HF6.out.2 (by decide) (by decide))
                clear HF6 HBy HLy HGy TC
                refine reg_take (i := 7) (oi := _) (v := ?_) rfl (by kernel_rfl) (by kernel_rfl) (by kernel_rfl) (fun _ _ _ h => h) (by rfl) ?_ (by assumption) ?_
                rotate_left
                · intro w hSw; (try dsimp only at hSw); have d0 : w.cell? ⟨q, 0, none⟩ = some (.slice A1 l1 c1) := (by rw [hSw.1.cell]; rfl); have d1 : w.cell? ⟨q, 1, none⟩ = some (.slice A2 l2 c2) := (by rw [hSw.1.cell]; rfl); have d2 : w.cell? ⟨q, 2, none⟩ = some (.slice A3 l3 c3) := (by rw [hSw.1.cell]; rfl); have x0 := hSw.2.1.k; have x1 := hSw.2.1.n; have x2 := hSw.2.1.d; have x3 := hSw.2.1.b; have x4 := hSw.2.1.s; have x5 := hSw.2.1.p; have zg := hSw.2.2; have zq := hSw.1.lt; go_simp; try with_reducible rfl
                (try simp only [Act.put, List.setIfInBounds_toArray, List.set_cons_zero, List.set_cons_succ])
                refine reg_take (i := 8) (oi := _) (v := ?_) rfl (by kernel_rfl) (by kernel_rfl) (by kernel_rfl) (fun _ _ _ h => h) (by rfl) ?_ (by assumption) ?_
                rotate_left
                · intro w hSw; (try dsimp only at hSw); have d0 : w.cell? ⟨q, 0, none⟩ = some (.slice A1 l1 c1) := (by rw [hSw.1.cell]; rfl); have d1 : w.cell? ⟨q, 1, none⟩ = some (.slice A2 l2 c2) := (by rw [hSw.1.cell]; rfl); have d2 : w.cell? ⟨q, 2, none⟩ = some (.slice A3 l3 c3) := (by rw [hSw.1.cell]; rfl); have x0 := hSw.2.1.k; have x1 := hSw.2.1.n; have x2 := hSw.2.1.d; have x3 := hSw.2.1.b; have x4 := hSw.2.1.s; have x5 := hSw.2.1.p; have zg := hSw.2.2; have zq := hSw.1.lt; go_simp; try with_reducible rfl
                (try simp only [Act.put, List.setIfInBounds_toArray, List.set_cons_zero, List.set_cons_succ])
                refine reg_take (i := 9) (oi := _) (v := ?_) rfl (by kernel_rfl) (by kernel_rfl) (by kernel_rfl) (fun _ _ _ h => h) (by rfl) ?_ (by assumption) ?_
                rotate_left
                · intro w hSw; (try dsimp only at hSw); have d0 : w.cell? ⟨q, 0, none⟩ = some (.slice A1 l1 c1) := (by rw [hSw.1.cell]; rfl); have d1 : w.cell? ⟨q, 1, none⟩ = some (.slice A2 l2 c2) := (by rw [hSw.1.cell]; rfl); have d2 : w.cell? ⟨q, 2, none⟩ = some (.slice A3 l3 c3) := (by rw [hSw.1.cell]; rfl); have x0 := hSw.2.1.k; have x1 := hSw.2.1.n; have x2 := hSw.2.1.d; have x3 := hSw.2.1.b; have x4 := hSw.2.1.s; have x5 := hSw.2.1.p; have zg := hSw.2.2; have zq := hSw.1.lt; go_simp; try with_reducible rfl
                (try simp only [Act.put, List.setIfInBounds_toArray, List.set_cons_zero, List.set_cons_succ])
                refine wpAnyH_ready (rs := [11]) (by kernel_rfl) (by simp) ?_
                refine reg_each (o := _) rfl (fun K hK => ?_) ?_
                · skip
                  have kP := P10.out
                  have y0 : w6.cell? ⟨p6, 0, none⟩ = some (.slice none 0 0) := by rw [kP.cell]; rfl
                  have y1 : w6.cell? ⟨p6, 1, none⟩ = some (.slice none 0 0) := by rw [kP.cell]; rfl
                  have y2 : w6.cell? ⟨p6, 2, none⟩ = some (.slice none 0 0) := by rw [kP.cell]; rfl
                  have f0 := kP.frozen 0
                  have f1 := kP.frozen 1
                  have f2 := kP.frozen 2
                  have zP := kP.lt
                  have HSKc := Lib.hid hHeld.1
                  go_simp
                  refine hK.out _ _ ?_ (fun hHeld2 => ?_)
                  · exact ((hHeld.set HP10.out HGP.out 0 _).set HP10.out HGP.out 1 _).set HP10.out HGP.out 2 _
                  clear hK K hHeld
                  have hHeld := hHeld2
                  clear hHeld2
                  (try simp only [Act.put, List.setIfInBounds_toArray, List.set_cons_zero, List.set_cons_succ])
                  refine reg_take (i := 12) (oi := _) (v := ?_) rfl (by kernel_rfl) (by kernel_rfl) (by kernel_rfl) (fun _ _ _ h => h) (by rfl) ?_ (by assumption) ?_
                  rotate_left
                  · intro w hSw; (try dsimp only at hSw); have d0 : w.cell? ⟨q, 0, none⟩ = some (.slice A1 l1 c1) := (by rw [hSw.1.cell]; rfl); have d1 : w.cell? ⟨q, 1, none⟩ = some (.slice A2 l2 c2) := (by rw [hSw.1.cell]; rfl); have d2 : w.cell? ⟨q, 2, none⟩ = some (.slice A3 l3 c3) := (by rw [hSw.1.cell]; rfl); have x0 := hSw.2.1.k; have x1 := hSw.2.1.n; have x2 := hSw.2.1.d; have x3 := hSw.2.1.b; have x4 := hSw.2.1.s; have x5 := hSw.2.1.p; have zg := hSw.2.2; have zq := hSw.1.lt; go_simp; try with_reducible rfl
                  (try simp only [Act.put, List.setIfInBounds_toArray, List.set_cons_zero, List.set_cons_succ])
                  refine wpAnyH_done (by kernel_rfl) ?_ _
                  refine NoPanic.normal ?_
                  have HSK := Lib.hid (show Blk w6 q 41 #[.slice A1 l1 c1, .slice A2 l2 c2, .slice A3 l3 c3] from HSKc.out)
                  clear hHeld y0 y1 y2 f0 f1 f2 zP
                  have hB7 := both_end HB6.out.2 HB6.out.1 kP
                  have kP3 := ((kP.put 0 (.slice B1 x6.now.length e1) rfl).put 1 (.slice B2 x6.sure.length e2) rfl).put 2 (.slice B3 x6.T.length e3) rfl
                  have hL7 := below_set3 (a := .slice B1 x6.now.length e1) (b := .slice B2 x6.sure.length e2) (c := .slice B3 x6.T.length e3) HL6.out (show B ≤ p6 by have := HP10.out; have := HQB.out; omega)
                  have HB7 := Lib.hid hB7
                  have HL7 := Lib.hid hL7
                  have HP7 := Lib.hid kP3
                  skip
                  have HK7 := Lib.hid (show Blk (((w6.setCell ⟨p6, 0, none⟩ (.slice B1 x6.now.length e1)).setCell ⟨p6, 1, none⟩ (.slice B2 x6.sure.length e2)).setCell ⟨p6, 2, none⟩ (.slice B3 x6.T.length e3)) q 41 #[.slice A1 l1 c1, .slice A2 l2 c2, .slice A3 l3 c3] from blk_far (blk_far (blk_far HSK.out 0 _ (by have := HP10.out; omega)) 1 _ (by have := HP10.out; omega)) 2 _ (by have := HP10.out; omega))
                  clear hB7 hL7 kP kP3 HB6 HL6 P10 HSK
                  generalize ((w6.setCell ⟨p6, 0, none⟩ (.slice B1 x6.now.length e1)).setCell ⟨p6, 1, none⟩ (.slice B2 x6.sure.length e2)).setCell ⟨p6, 2, none⟩ (.slice B3 x6.T.length e3) = w7 at *
                  have y0 : w7.cell? ⟨p6, 0, none⟩ = some (.slice B1 x6.now.length e1) := by rw [HP7.out.cell]; rfl
                  have y1 : w7.cell? ⟨p6, 1, none⟩ = some (.slice B2 x6.sure.length e2) := by rw [HP7.out.cell]; rfl
                  have y2 : w7.cell? ⟨p6, 2, none⟩ = some (.slice B3 x6.T.length e3) := by rw [HP7.out.cell]; rfl
                  have z0 : w7.cell? ⟨q, 0, none⟩ = some (.slice A1 l1 c1) := by rw [HK7.out.cell]; rfl
                  have f0 := HK7.out.frozen 0
                  have z1 : w7.cell? ⟨q, 1, none⟩ = some (.slice A2 l2 c2) := by rw [HK7.out.cell]; rfl
                  have f1 := HK7.out.frozen 1
                  have z2 : w7.cell? ⟨q, 2, none⟩ = some (.slice A3 l3 c3) := by rw [HK7.out.cell]; rfl
                  have f2 := HK7.out.frozen 2
                  have zy := HP7.out.lt
                  have zq := HK7.out.lt
                  go_upto_region 12 with (fail)
                  have hB8 := both_end HB7.out.2 HB7.out.1 HK7.out
                  have hL8 := below_set3 (a := .slice B1 x6.now.length e1) (b := .slice B2 x6.sure.length e2) (c := .slice B3 x6.T.length e3) HL7.out HQB.out
                  have kQ3 := ((HK7.out.put 0 (.slice B1 x6.now.length e1) rfl).put 1 (.slice B2 x6.sure.length e2) rfl).put 2 (.slice B3 x6.T.length e3) rfl
                  have HB8 := Lib.hid hB8
                  have HL8 := Lib.hid hL8
                  have HK8 := Lib.hid kQ3
                  clear y0 y1 y2 z0 z1 z2 f0 f1 f2 zy zq hB8 hL8 kQ3 HB7 HL7 HK7 HP7
                  generalize ((w7.setCell ⟨q, 0, none⟩ (.slice B1 x6.now.length e1)).setCell ⟨q, 1, none⟩ (.slice B2 x6.sure.length e2)).setCell ⟨q, 2, none⟩ (.slice B3 x6.T.length e3) = w8 at *
                  have HF8 := Lib.hid (show RdF w8 (.slice B1 x6.now.length e1) x6.now from by obtain ⟨u1, u2, u3, e, g1, g2, g3⟩ := HB8.out.1; cases e; exact g1)
                  refine wp_region_noPanic ?_
                  refine wp_region_held_drew (S := (fun w' => Below w8.heap.size w8 w')) (by kernel_rfl) ?_ (fun hHeld => ?_)
                  · exact below_drewN (Below.refl _ _) 1
                  generalize w8.drew = wd at *
                  refine reg_take (i := 0) (oi := _) (v := ?_) rfl (by kernel_rfl) (by kernel_rfl) (by kernel_rfl) (fun _ _ _ h => h) (by rfl) ?_ (by assumption) ?_
                  rotate_left
                  · intro w hSw; (try dsimp only at hSw); have kQ := HK8.out.below hSw; have d0 : w.cell? ⟨q, 0, none⟩ = some (.slice B1 x6.now.length e1) := (by rw [kQ.cell]; rfl); have d1 : w.cell? ⟨q, 1, none⟩ = some (.slice B2 x6.sure.length e2) := (by rw [kQ.cell]; rfl); have d2 : w.cell? ⟨q, 2, none⟩ = some (.slice B3 x6.T.length e3) := (by rw [kQ.cell]; rfl); have zq := kQ.lt; go_simp; try with_reducible rfl
                  (try simp only [Act.put, List.setIfInBounds_toArray, List.set_cons_zero, List.set_cons_succ])
                  refine reg_take (i := 1) (oi := _) (v := ?_) rfl (by kernel_rfl) (by kernel_rfl) (by kernel_rfl) (fun _ _ _ h => h) (by rfl) ?_ (by assumption) ?_
                  rotate_left
                  · intro w hSw; (try dsimp only at hSw); have kQ := HK8.out.below hSw; have d0 : w.cell? ⟨q, 0, none⟩ = some (.slice B1 x6.now.length e1) := (by rw [kQ.cell]; rfl); have d1 : w.cell? ⟨q, 1, none⟩ = some (.slice B2 x6.sure.length e2) := (by rw [kQ.cell]; rfl); have d2 : w.cell? ⟨q, 2, none⟩ = some (.slice B3 x6.T.length e3) := (by rw [kQ.cell]; rfl); have zq := kQ.lt; go_simp; try with_reducible rfl
                  (try simp only [Act.put, List.setIfInBounds_toArray, List.set_cons_zero, List.set_cons_succ])
                  refine reg_take (i := 2) (oi := _) (v := ?_) rfl (by kernel_rfl) (by kernel_rfl) (by kernel_rfl) (fun _ _ _ h => h) (by rfl) ?_ (by assumption) ?_
                  rotate_left
                  · intro w hSw; (try dsimp only at hSw); have kQ := HK8.out.below hSw; have d0 : w.cell? ⟨q, 0, none⟩ = some (.slice B1 x6.now.length e1) := (by rw [kQ.cell]; rfl); have d1 : w.cell? ⟨q, 1, none⟩ = some (.slice B2 x6.sure.length e2) := (by rw [kQ.cell]; rfl); have d2 : w.cell? ⟨q, 2, none⟩ = some (.slice B3 x6.T.length e3) := (by rw [kQ.cell]; rfl); have zq := kQ.lt; go_simp; try with_reducible rfl
                  (try simp only [Act.put, List.setIfInBounds_toArray, List.set_cons_zero, List.set_cons_succ])
                  refine reg_take (i := 3) (oi := _) (v := ?_) rfl (by kernel_rfl) (by kernel_rfl) (by kernel_rfl) (fun _ _ _ h => h) (by rfl) ?_ (by assumption) ?_
                  rotate_left
                  · intro w hSw; (try dsimp only at hSw); have kQ := HK8.out.below hSw; have d0 : w.cell? ⟨q, 0, none⟩ = some (.slice B1 x6.now.length e1) := (by rw [kQ.cell]; rfl); have d1 : w.cell? ⟨q, 1, none⟩ = some (.slice B2 x6.sure.length e2) := (by rw [kQ.cell]; rfl); have d2 : w.cell? ⟨q, 2, none⟩ = some (.slice B3 x6.T.length e3) := (by rw [kQ.cell]; rfl); have zq := kQ.lt; go_simp; try with_reducible rfl
                  (try simp only [Act.put, List.setIfInBounds_toArray, List.set_cons_zero, List.set_cons_succ])
                  refine reg_take (i := 4) (oi := _) (v := ?_) rfl (by kernel_rfl) (by kernel_rfl) (by kernel_rfl) (fun _ _ _ h => h) (by rfl) ?_ (by assumption) ?_
                  rotate_left
                  · intro w hSw; (try dsimp only at hSw); have kQ := HK8.out.below hSw; have d0 : w.cell? ⟨q, 0, none⟩ = some (.slice B1 x6.now.length e1) := (by rw [kQ.cell]; rfl); have d1 : w.cell? ⟨q, 1, none⟩ = some (.slice B2 x6.sure.length e2) := (by rw [kQ.cell]; rfl); have d2 : w.cell? ⟨q, 2, none⟩ = some (.slice B3 x6.T.length e3) := (by rw [kQ.cell]; rfl); have zq := kQ.lt; go_simp; try with_reducible rfl
                  (try simp only [Act.put, List.setIfInBounds_toArray, List.set_cons_zero, List.set_cons_succ])
                  refine reg_take (i := 5) (oi := _) (v := ?_) rfl (by kernel_rfl) (by kernel_rfl) (by kernel_rfl) (fun _ _ _ h => h) (by rfl) ?_ (by assumption) ?_
                  rotate_left
                  · intro w hSw; (try dsimp only at hSw); have kQ := HK8.out.below hSw; have d0 : w.cell? ⟨q, 0, none⟩ = some (.slice B1 x6.now.length e1) := (by rw [kQ.cell]; rfl); have d1 : w.cell? ⟨q, 1, none⟩ = some (.slice B2 x6.sure.length e2) := (by rw [kQ.cell]; rfl); have d2 : w.cell? ⟨q, 2, none⟩ = some (.slice B3 x6.T.length e3) := (by rw [kQ.cell]; rfl); have zq := kQ.lt; go_simp; try with_reducible rfl
                  (try simp only [Act.put, List.setIfInBounds_toArray, List.set_cons_zero, List.set_cons_succ])
                  refine wpAnyH_ready (rs := [6]) (by kernel_rfl) (by simp) ?_
                  refine reg_each (o := _) rfl (fun K hK => ?_) ?_
                  · skip
                    go_simp
                    refine (same_walk B d x6 _ _ (HB8.out.2.below hHeld) (HF8.out.kept (KeptY.below hHeld))).mono ?_
                    rintro r w10 ⟨rfl, hb10⟩
                    have BE10 := Lib.hid (below_trans hHeld hb10)
                    clear hb10
                    go_wp2_with (fail)
                    refine hK.out _ _ ?_ (fun hHeld2 => ?_)
                    · exact BE10.out
                    clear hK K hHeld
                    have hHeld := hHeld2
                    clear hHeld2
                    (try simp only [Act.put, List.setIfInBounds_toArray, List.set_cons_zero, List.set_cons_succ])
                    refine reg_take (i := 7) (oi := _) (v := ?_) rfl (by kernel_rfl) (by kernel_rfl) (by kernel_rfl) (fun _ _ _ h => h) (by rfl) ?_ (by assumption) ?_
                    rotate_left
                    · intro w hSw; (try dsimp only at hSw); have kQ := HK8.out.below hSw; have d0 : w.cell? ⟨q, 0, none⟩ = some (.slice B1 x6.now.length e1) := (by rw [kQ.cell]; rfl); have d1 : w.cell? ⟨q, 1, none⟩ = some (.slice B2 x6.sure.length e2) := (by rw [kQ.cell]; rfl); have d2 : w.cell? ⟨q, 2, none⟩ = some (.slice B3 x6.T.length e3) := (by rw [kQ.cell]; rfl); have zq := kQ.lt; go_simp; try with_reducible rfl
                    (try simp only [Act.put, List.setIfInBounds_toArray, List.set_cons_zero, List.set_cons_succ])
                    refine reg_take (i := 8) (oi := _) (v := ?_) rfl (by kernel_rfl) (by kernel_rfl) (by kernel_rfl) (fun _ _ _ h => h) (by rfl) ?_ (by assumption) ?_
                    rotate_left
                    · intro w hSw; (try dsimp only at hSw); have kQ := HK8.out.below hSw; have d0 : w.cell? ⟨q, 0, none⟩ = some (.slice B1 x6.now.length e1) := (by rw [kQ.cell]; rfl); have d1 : w.cell? ⟨q, 1, none⟩ = some (.slice B2 x6.sure.length e2) := (by rw [kQ.cell]; rfl); have d2 : w.cell? ⟨q, 2, none⟩ = some (.slice B3 x6.T.length e3) := (by rw [kQ.cell]; rfl); have zq := kQ.lt; go_simp; try with_reducible rfl
                    (try simp only [Act.put, List.setIfInBounds_toArray, List.set_cons_zero, List.set_cons_succ])
                    refine reg_take (i := 9) (oi := _) (v := ?_) rfl (by kernel_rfl) (by kernel_rfl) (by kernel_rfl) (fun _ _ _ h => h) (by rfl) ?_ (by assumption) ?_
                    rotate_left
                    · intro w hSw; (try dsimp only at hSw); have kQ := HK8.out.below hSw; have d0 : w.cell? ⟨q, 0, none⟩ = some (.slice B1 x6.now.length e1) := (by rw [kQ.cell]; rfl); have d1 : w.cell? ⟨q, 1, none⟩ = some (.slice B2 x6.sure.length e2) := (by rw [kQ.cell]; rfl); have d2 : w.cell? ⟨q, 2, none⟩ = some (.slice B3 x6.T.length e3) := (by rw [kQ.cell]; rfl); have zq := kQ.lt; go_simp; try with_reducible rfl
                    (try simp only [Act.put, List.setIfInBounds_toArray, List.set_cons_zero, List.set_cons_succ])
                    refine reg_take (i := 10) (oi := _) (v := ?_) rfl (by kernel_rfl) (by kernel_rfl) (by kernel_rfl) (fun _ _ _ h => h) (by rfl) ?_ (by assumption) ?_
                    rotate_left
                    · intro w hSw; (try dsimp only at hSw); have kQ := HK8.out.below hSw; have d0 : w.cell? ⟨q, 0, none⟩ = some (.slice B1 x6.now.length e1) := (by rw [kQ.cell]; rfl); have d1 : w.cell? ⟨q, 1, none⟩ = some (.slice B2 x6.sure.length e2) := (by rw [kQ.cell]; rfl); have d2 : w.cell? ⟨q, 2, none⟩ = some (.slice B3 x6.T.length e3) := (by rw [kQ.cell]; rfl); have zq := kQ.lt; go_simp; try with_reducible rfl
                    (try simp only [Act.put, List.setIfInBounds_toArray, List.set_cons_zero, List.set_cons_succ])
                    refine reg_take (i := 12) (oi := _) (v := ?_) rfl (by kernel_rfl) (by kernel_rfl) (by kernel_rfl) (fun _ _ _ h => h) (by rfl) ?_ (by assumption) ?_
                    rotate_left
                    · intro w hSw; (try dsimp only at hSw); have kQ := HK8.out.below hSw; have d0 : w.cell? ⟨q, 0, none⟩ = some (.slice B1 x6.now.length e1) := (by rw [kQ.cell]; rfl); have d1 : w.cell? ⟨q, 1, none⟩ = some (.slice B2 x6.sure.length e2) := (by rw [kQ.cell]; rfl); have d2 : w.cell? ⟨q, 2, none⟩ = some (.slice B3 x6.T.length e3) := (by rw [kQ.cell]; rfl); have zq := kQ.lt; go_simp; try with_reducible rfl
                    (try simp only [Act.put, List.setIfInBounds_toArray, List.set_cons_zero, List.set_cons_succ])
                    refine reg_take (i := 13) (oi := _) (v := ?_) rfl (by kernel_rfl) (by kernel_rfl) (by kernel_rfl) (fun _ _ _ h => h) (by rfl) ?_ (by assumption) ?_
                    rotate_left
                    · intro w hSw; (try dsimp only at hSw); have kQ := HK8.out.below hSw; have d0 : w.cell? ⟨q, 0, none⟩ = some (.slice B1 x6.now.length e1) := (by rw [kQ.cell]; rfl); have d1 : w.cell? ⟨q, 1, none⟩ = some (.slice B2 x6.sure.length e2) := (by rw [kQ.cell]; rfl); have d2 : w.cell? ⟨q, 2, none⟩ = some (.slice B3 x6.T.length e3) := (by rw [kQ.cell]; rfl); have zq := kQ.lt; go_simp; try with_reducible rfl
                    (try simp only [Act.put, List.setIfInBounds_toArray, List.set_cons_zero, List.set_cons_succ])
                    refine reg_take (i := 14) (oi := _) (v := ?_) rfl (by kernel_rfl) (by kernel_rfl) (by kernel_rfl) (fun _ _ _ h => h) (by rfl) ?_ (by assumption) ?_
                    rotate_left
                    · intro w hSw; (try dsimp only at hSw); have kQ := HK8.out.below hSw; have d0 : w.cell? ⟨q, 0, none⟩ = some (.slice B1 x6.now.length e1) := (by rw [kQ.cell]; rfl); have d1 : w.cell? ⟨q, 1, none⟩ = some (.slice B2 x6.sure.length e2) := (by rw [kQ.cell]; rfl); have d2 : w.cell? ⟨q, 2, none⟩ = some (.slice B3 x6.T.length e3) := (by rw [kQ.cell]; rfl); have zq := kQ.lt; go_simp; try with_reducible rfl
                    (try simp only [Act.put, List.setIfInBounds_toArray, List.set_cons_zero, List.set_cons_succ])
                    refine wpAnyH_ready (rs := [11]) (by kernel_rfl) (by simp) ?_
                    refine reg_each (o := _) rfl (fun K hK => ?_) ?_
                    · skip
                      go_simp
                      refine (pending_walk B d x6.now x6.sure x6.T _ (HB8.out.2.below hHeld).1).mono ?_
                      rintro r w11 ⟨rfl, rfl⟩
                      have BE11 := Lib.hid hHeld
                      go_wp2_with (fail)
                      refine hK.out _ _ ?_ (fun hHeld2 => ?_)
                      · exact BE11.out
                      clear hK K hHeld
                      have hHeld := hHeld2
                      clear hHeld2
                      (try simp only [Act.put, List.setIfInBounds_toArray, List.set_cons_zero, List.set_cons_succ])
                      refine reg_take (i := 15) (oi := _) (v := ?_) rfl (by kernel_rfl) (by kernel_rfl) (by kernel_rfl) (fun _ _ _ h => h) (by rfl) ?_ (by assumption) ?_
                      rotate_left
                      · intro w hSw; (try dsimp only at hSw); have kQ := HK8.out.below hSw; have d0 : w.cell? ⟨q, 0, none⟩ = some (.slice B1 x6.now.length e1) := (by rw [kQ.cell]; rfl); have d1 : w.cell? ⟨q, 1, none⟩ = some (.slice B2 x6.sure.length e2) := (by rw [kQ.cell]; rfl); have d2 : w.cell? ⟨q, 2, none⟩ = some (.slice B3 x6.T.length e3) := (by rw [kQ.cell]; rfl); have zq := kQ.lt; go_simp; try with_reducible rfl
                      (try simp only [Act.put, List.setIfInBounds_toArray, List.set_cons_zero, List.set_cons_succ])
                      refine reg_take (i := 16) (oi := _) (v := ?_) rfl (by kernel_rfl) (by kernel_rfl) (by kernel_rfl) (fun _ _ _ h => h) (by rfl) ?_ (by assumption) ?_
                      rotate_left
                      · intro w hSw; (try dsimp only at hSw); have kQ := HK8.out.below hSw; have d0 : w.cell? ⟨q, 0, none⟩ = some (.slice B1 x6.now.length e1) := (by rw [kQ.cell]; rfl); have d1 : w.cell? ⟨q, 1, none⟩ = some (.slice B2 x6.sure.length e2) := (by rw [kQ.cell]; rfl); have d2 : w.cell? ⟨q, 2, none⟩ = some (.slice B3 x6.T.length e3) := (by rw [kQ.cell]; rfl); have zq := kQ.lt; go_simp; try with_reducible rfl
                      (try simp only [Act.put, List.setIfInBounds_toArray, List.set_cons_zero, List.set_cons_succ])
                      refine wpAnyH_done (by kernel_rfl) ?_ _
                      refine NoPanic.normal ?_
                      clear hHeld BE10
                      have HL11 := Lib.hid (HL8.out.trans (BE11.out.mono HB8.out.2.1.lo.2))
                      have HA11 := Lib.hid ((HA0.out.below HL11.out hgB))
                      have x2 := HA11.out.d
                      have zg : g < w11.heap.size := Nat.lt_of_lt_of_le hgB (HB8.out.2.below BE11.out).1.lo.2
                      have RW := read_walk B d x6.now x6.sure x6.T a.dst w11 (HB8.out.2.below BE11.out).1 (fun bs e => (HB8.out.2.2.now.look e).2)
                      go_upto_region 14 with (fail)
                      go_wp2_with (fail)
                      refine Calls.mono RW ?_
                      rintro y w12 ⟨v12, rfl, _, hb12⟩
                      have BE12 := Lib.hid (below_trans BE11.out hb12)
                      clear RW hb12 x2 zg BE11 HA11 HL11
                      have HL12 := Lib.hid (HL8.out.trans (BE12.out.mono HB8.out.2.1.lo.2))
                      have HA12 := Lib.hid (HA0.out.below HL12.out hgB)
                      have x2 := HA12.out.d
                      have zg : g < w12.heap.size := Nat.lt_of_lt_of_le hgB (HB8.out.2.below BE12.out).1.lo.2
                      obtain ⟨c, hc⟩ : ∃ c, checkN x6.now a.dst.data.toList = c := ⟨_, rfl⟩
                      have HC := Lib.hid hc
                      rw [hc]
                      have NW := docnamed_walk a.dst HAC.out.d w12
                      clear hc
                      go_upto_region 16 with (fail)
                      go_wp2_with (fail)
                      refine Calls.mono NW ?_
                      rintro y w13 ⟨rfl, hb13⟩
                      have BE13 := Lib.hid (below_trans BE12.out hb13)
                      clear NW hb13 x2 zg BE12 HA12 HL12
                      have HL13 := Lib.hid (HL8.out.trans (BE13.out.mono HB8.out.2.1.lo.2))
                      have HG13 := Lib.hid (show ErrType w13 from (HL13.out.cell (p := ⟨0, 0, none⟩) HGB.out).trans HG1.out)
                      cases hnm : namedF a.dst.data.toList with
                      | false =>
                        obtain rfl : c = 11 := by have := HC.out; unfold checkN at this; rw [hnm] at this; exact this.symm
                        have NM := num_errI 11 w13 HG13.out
                        go_upto_region 20 with (fail)
                        go_wp2_with (fail)
                        refine Calls.mono NM ?_
                        rintro y w15 ⟨rfl, hb15⟩
                        have BE15 := Lib.hid (below_trans BE13.out hb15)
                        have HNX := Lib.hid (show LoX B d q w1 w15 from ⟨x6, _, _, _, HK8.out.below BE15.out, HB8.out.below BE15.out, HL8.out.trans (BE15.out.mono HB8.out.2.1.lo.2)⟩)
                        clear NM hb15
                        go_wp2_with (fail)
                        go_roundw
                        case rel => exact ⟨i + 1, by go_num, by omega, HNX.out⟩
                        case measure => simp [intOf]; omega
                      | true =>
                        go_upto_region 18 with (fail)
                        refine wp_region_noPanic ?_
                        refine wp_region_held_drew (S := (fun w' => Below w13.heap.size w13 w')) (by kernel_rfl) ?_ (fun hHeld => ?_)
                        · exact below_drewN (Below.refl _ _) 1
                        generalize w13.drew = wd at *
                        refine reg_take (i := 0) (oi := _) (v := ?_) rfl (by kernel_rfl) (by kernel_rfl) (by kernel_rfl) (fun _ _ _ h => h) (by rfl) ?_ (by assumption) ?_
                        rotate_left
                        · intro w hSw; (try dsimp only at hSw); have kQ := HK8.out.below (below_trans BE13.out hSw); have d0 : w.cell? ⟨q, 0, none⟩ = some (.slice B1 x6.now.length e1) := (by rw [kQ.cell]; rfl); have d1 : w.cell? ⟨q, 1, none⟩ = some (.slice B2 x6.sure.length e2) := (by rw [kQ.cell]; rfl); have d2 : w.cell? ⟨q, 2, none⟩ = some (.slice B3 x6.T.length e3) := (by rw [kQ.cell]; rfl); have zq := kQ.lt; have x2 := (HA0.out.below (HL13.out.trans (hSw.mono (HB8.out.2.below BE13.out).1.lo.2)) hgB).d; have zg : g < w.heap.size := Nat.lt_of_lt_of_le hgB (Nat.le_trans (HB8.out.2.below BE13.out).1.lo.2 hSw.size); go_simp; try with_reducible rfl
                        (try simp only [Act.put, List.setIfInBounds_toArray, List.set_cons_zero, List.set_cons_succ])
                        refine reg_take (i := 1) (oi := _) (v := ?_) rfl (by kernel_rfl) (by kernel_rfl) (by kernel_rfl) (fun _ _ _ h => h) (by rfl) ?_ (by assumption) ?_
                        rotate_left
                        · intro w hSw; (try dsimp only at hSw); have kQ := HK8.out.below (below_trans BE13.out hSw); have d0 : w.cell? ⟨q, 0, none⟩ = some (.slice B1 x6.now.length e1) := (by rw [kQ.cell]; rfl); have d1 : w.cell? ⟨q, 1, none⟩ = some (.slice B2 x6.sure.length e2) := (by rw [kQ.cell]; rfl); have d2 : w.cell? ⟨q, 2, none⟩ = some (.slice B3 x6.T.length e3) := (by rw [kQ.cell]; rfl); have zq := kQ.lt; have x2 := (HA0.out.below (HL13.out.trans (hSw.mono (HB8.out.2.below BE13.out).1.lo.2)) hgB).d; have zg : g < w.heap.size := Nat.lt_of_lt_of_le hgB (Nat.le_trans (HB8.out.2.below BE13.out).1.lo.2 hSw.size); go_simp; try with_reducible rfl
                        (try simp only [Act.put, List.setIfInBounds_toArray, List.set_cons_zero, List.set_cons_succ])
                        refine reg_take (i := 2) (oi := _) (v := ?_) rfl (by kernel_rfl) (by kernel_rfl) (by kernel_rfl) (fun _ _ _ h => h) (by rfl) ?_ (by assumption) ?_
                        rotate_left
                        · intro w hSw; (try dsimp only at hSw); have kQ := HK8.out.below (below_trans BE13.out hSw); have d0 : w.cell? ⟨q, 0, none⟩ = some (.slice B1 x6.now.length e1) := (by rw [kQ.cell]; rfl); have d1 : w.cell? ⟨q, 1, none⟩ = some (.slice B2 x6.sure.length e2) := (by rw [kQ.cell]; rfl); have d2 : w.cell? ⟨q, 2, none⟩ = some (.slice B3 x6.T.length e3) := (by rw [kQ.cell]; rfl); have zq := kQ.lt; have x2 := (HA0.out.below (HL13.out.trans (hSw.mono (HB8.out.2.below BE13.out).1.lo.2)) hgB).d; have zg : g < w.heap.size := Nat.lt_of_lt_of_le hgB (Nat.le_trans (HB8.out.2.below BE13.out).1.lo.2 hSw.size); go_simp; try with_reducible rfl
                        (try simp only [Act.put, List.setIfInBounds_toArray, List.set_cons_zero, List.set_cons_succ])
                        refine reg_take (i := 3) (oi := _) (v := ?_) rfl (by kernel_rfl) (by kernel_rfl) (by kernel_rfl) (fun _ _ _ h => h) (by rfl) ?_ (by assumption) ?_
                        rotate_left
                        · intro w hSw; (try dsimp only at hSw); have kQ := HK8.out.below (below_trans BE13.out hSw); have d0 : w.cell? ⟨q, 0, none⟩ = some (.slice B1 x6.now.length e1) := (by rw [kQ.cell]; rfl); have d1 : w.cell? ⟨q, 1, none⟩ = some (.slice B2 x6.sure.length e2) := (by rw [kQ.cell]; rfl); have d2 : w.cell? ⟨q, 2, none⟩ = some (.slice B3 x6.T.length e3) := (by rw [kQ.cell]; rfl); have zq := kQ.lt; have x2 := (HA0.out.below (HL13.out.trans (hSw.mono (HB8.out.2.below BE13.out).1.lo.2)) hgB).d; have zg : g < w.heap.size := Nat.lt_of_lt_of_le hgB (Nat.le_trans (HB8.out.2.below BE13.out).1.lo.2 hSw.size); go_simp; try with_reducible rfl
                        (try simp only [Act.put, List.setIfInBounds_toArray, List.set_cons_zero, List.set_cons_succ])
                        refine reg_take (i := 4) (oi := _) (v := ?_) rfl (by kernel_rfl) (by kernel_rfl) (by kernel_rfl) (fun _ _ _ h => h) (by rfl) ?_ (by assumption) ?_
                        rotate_left
                        · intro w hSw; (try dsimp only at hSw); have kQ := HK8.out.below (below_trans BE13.out hSw); have d0 : w.cell? ⟨q, 0, none⟩ = some (.slice B1 x6.now.length e1) := (by rw [kQ.cell]; rfl); have d1 : w.cell? ⟨q, 1, none⟩ = some (.slice B2 x6.sure.length e2) := (by rw [kQ.cell]; rfl); have d2 : w.cell? ⟨q, 2, none⟩ = some (.slice B3 x6.T.length e3) := (by rw [kQ.cell]; rfl); have zq := kQ.lt; have x2 := (HA0.out.below (HL13.out.trans (hSw.mono (HB8.out.2.below BE13.out).1.lo.2)) hgB).d; have zg : g < w.heap.size := Nat.lt_of_lt_of_le hgB (Nat.le_trans (HB8.out.2.below BE13.out).1.lo.2 hSw.size); go_simp; try with_reducible rfl
                        (try simp only [Act.put, List.setIfInBounds_toArray, List.set_cons_zero, List.set_cons_succ])
                        refine reg_take (i := 5) (oi := _) (v := ?_) rfl (by kernel_rfl) (by kernel_rfl) (by kernel_rfl) (fun _ _ _ h => h) (by rfl) ?_ (by assumption) ?_
                        rotate_left
                        · intro w hSw; (try dsimp only at hSw); have kQ := HK8.out.below (below_trans BE13.out hSw); have d0 : w.cell? ⟨q, 0, none⟩ = some (.slice B1 x6.now.length e1) := (by rw [kQ.cell]; rfl); have d1 : w.cell? ⟨q, 1, none⟩ = some (.slice B2 x6.sure.length e2) := (by rw [kQ.cell]; rfl); have d2 : w.cell? ⟨q, 2, none⟩ = some (.slice B3 x6.T.length e3) := (by rw [kQ.cell]; rfl); have zq := kQ.lt; have x2 := (HA0.out.below (HL13.out.trans (hSw.mono (HB8.out.2.below BE13.out).1.lo.2)) hgB).d; have zg : g < w.heap.size := Nat.lt_of_lt_of_le hgB (Nat.le_trans (HB8.out.2.below BE13.out).1.lo.2 hSw.size); go_simp; try with_reducible rfl
                        (try simp only [Act.put, List.setIfInBounds_toArray, List.set_cons_zero, List.set_cons_succ])
                        refine reg_take (i := 6) (oi := _) (v := ?_) rfl (by kernel_rfl) (by kernel_rfl) (by kernel_rfl) (fun _ _ _ h => h) (by rfl) ?_ (by assumption) ?_
                        rotate_left
                        · intro w hSw; (try dsimp only at hSw); have kQ := HK8.out.below (below_trans BE13.out hSw); have d0 : w.cell? ⟨q, 0, none⟩ = some (.slice B1 x6.now.length e1) := (by rw [kQ.cell]; rfl); have d1 : w.cell? ⟨q, 1, none⟩ = some (.slice B2 x6.sure.length e2) := (by rw [kQ.cell]; rfl); have d2 : w.cell? ⟨q, 2, none⟩ = some (.slice B3 x6.T.length e3) := (by rw [kQ.cell]; rfl); have zq := kQ.lt; have x2 := (HA0.out.below (HL13.out.trans (hSw.mono (HB8.out.2.below BE13.out).1.lo.2)) hgB).d; have zg : g < w.heap.size := Nat.lt_of_lt_of_le hgB (Nat.le_trans (HB8.out.2.below BE13.out).1.lo.2 hSw.size); go_simp; try with_reducible rfl
                        (try simp only [Act.put, List.setIfInBounds_toArray, List.set_cons_zero, List.set_cons_succ])
                        refine wpAnyH_ready (rs := [7]) (by kernel_rfl) (by simp) ?_
                        refine reg_each (o := _) rfl (fun K hK => ?_) ?_
                        · skip
                          go_simp
                          refine (find_walk _ x6.now a.dst.data.toList _ (HF8.out.kept (KeptY.below (below_trans BE13.out hHeld))) HB8.out.2.1.an.2).mono ?_
                          rintro r w14 ⟨rr, rfl, rfl, hrr⟩
                          have BE14 := Lib.hid (below_trans BE13.out hHeld)
                          have HRR := Lib.hid hrr
                          have HHE := Lib.hid hHeld
                          clear hrr
                          go_wp2_with (fail)
                          refine hK.out _ _ ?_ (fun hHeld2 => ?_)
                          · exact HHE.out
                          clear hK K hHeld
                          have hHeld := hHeld2
                          clear hHeld2
                          (try simp only [Act.put, List.setIfInBounds_toArray, List.set_cons_zero, List.set_cons_succ])
                          refine reg_take (i := 8) (oi := _) (v := ?_) rfl (by kernel_rfl) (by kernel_rfl) (by kernel_rfl) (fun _ _ _ h => h) (by rfl) ?_ (by assumption) ?_
                          rotate_left
                          · intro w hSw; (try dsimp only at hSw); have kQ := HK8.out.below (below_trans BE13.out hSw); have d0 : w.cell? ⟨q, 0, none⟩ = some (.slice B1 x6.now.length e1) := (by rw [kQ.cell]; rfl); have d1 : w.cell? ⟨q, 1, none⟩ = some (.slice B2 x6.sure.length e2) := (by rw [kQ.cell]; rfl); have d2 : w.cell? ⟨q, 2, none⟩ = some (.slice B3 x6.T.length e3) := (by rw [kQ.cell]; rfl); have zq := kQ.lt; have x2 := (HA0.out.below (HL13.out.trans (hSw.mono (HB8.out.2.below BE13.out).1.lo.2)) hgB).d; have zg : g < w.heap.size := Nat.lt_of_lt_of_le hgB (Nat.le_trans (HB8.out.2.below BE13.out).1.lo.2 hSw.size); go_simp; try with_reducible rfl
                          (try simp only [Act.put, List.setIfInBounds_toArray, List.set_cons_zero, List.set_cons_succ])
                          refine wpAnyH_done (by kernel_rfl) ?_ _
                          refine NoPanic.normal ?_
                          clear hHeld HHE
                          have HG14 := Lib.hid (show ErrType w14 from ((HL8.out.trans (BE14.out.mono HB8.out.2.1.lo.2)).cell (p := ⟨0, 0, none⟩) HGB.out).trans HG1.out)
                          rcases HRR.out with ⟨rfl, hln⟩ | ⟨kk, ff, rfl, _, _, hls⟩
                          · obtain rfl : c = 8 := by have := HC.out; unfold checkN at this; rw [if_pos hnm, hln] at this; exact this.symm
                            clear hnm hln HC HRR
                            have NM := num_errI 8 w14 HG14.out
                            go_upto_region 20 with (fail)
                            go_wp2_with (fail)
                            refine Calls.mono NM ?_
                            rintro y w15 ⟨rfl, hb15⟩
                            have BE15 := Lib.hid (below_trans BE14.out hb15)
                            have HNX := Lib.hid (show LoX B d q w1 w15 from ⟨x6, _, _, _, HK8.out.below BE15.out, HB8.out.below BE15.out, HL8.out.trans (BE15.out.mono HB8.out.2.1.lo.2)⟩)
                            clear NM hb15
                            go_wp2_with (fail)
                            go_roundw
                            case rel => exact ⟨i + 1, by go_num, by omega, HNX.out⟩
                            case measure => simp [intOf]; omega
                          · obtain rfl : c = 0 := by have := HC.out; unfold checkN at this; rw [if_pos hnm, hls] at this; exact this.symm
                            have kk0 : (0 : Int) ≤ kk := by omega
                            clear hnm hls HC HRR
                            have NM := num_errI 0 w14 HG14.out
                            go_upto_region 20 with (fail)
                            go_wp2_with (fail)
                            refine Calls.mono NM ?_
                            rintro y w15 ⟨rfl, hb15⟩
                            have BE15 := Lib.hid (below_trans BE14.out hb15)
                            have HNX := Lib.hid (show LoX B d q w1 w15 from ⟨x6, _, _, _, HK8.out.below BE15.out, HB8.out.below BE15.out, HL8.out.trans (BE15.out.mono HB8.out.2.1.lo.2)⟩)
                            clear NM hb15
                            go_wp2_with (fail)
                            go_roundw
                            case rel => exact ⟨i + 1, by go_num, by omega, HNX.out⟩
                            case measure => simp [intOf]; omega
                        exact AllReadyH.nil
                    exact AllReadyH.nil
                  exact AllReadyH.nil
                exact AllReadyH.nil
              exact AllReadyH.nil
            exact AllReadyH.nil
      · have hi60' : ¬ (i : Int) < 60 := by omega
        have SW := sure_walk wl
        have HBT := Lib.hid (HB1.out.trans HBL.out)
        have HLO := Lib.hid HBO.out.2.1.lo.2
        go_wp2_with (fail)
        refine Calls.mono SW ?_
        rintro y w9 ⟨rfl, hB9⟩
        have HR := Lib.hid (show Below B w w9 from HBT.out.trans (hB9.mono HLO.out))
        clear SW hB9
        go_wp2_with (fail)
        go_ret
        exact ⟨rfl, by rw [hB]; exact HR.out⟩
    · have hil' : ¬ (i : Int) < (X.length : Int) := by omega
      have SW := sure_walk wl
      have HBT := Lib.hid (HB1.out.trans HBL.out)
      have HLO := Lib.hid HBO.out.2.1.lo.2
      go_wp2_with (fail)
      refine Calls.mono SW ?_
      rintro y w9 ⟨rfl, hB9⟩
      have HR := Lib.hid (show Below B w w9 from HBT.out.trans (hB9.mono HLO.out))
      clear SW hB9
      go_wp2_with (fail)
      go_ret
      exact ⟨rfl, by rw [hB]; exact HR.out⟩
end Go.Proofs.YtgocmfjijoibkaaDoor
