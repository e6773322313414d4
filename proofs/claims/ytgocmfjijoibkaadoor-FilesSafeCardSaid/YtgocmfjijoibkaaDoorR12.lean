/- FilesSafe walked. -/
import Derived.Test.YtgocmfjijoibkaaDoorR11
namespace Go.Proofs.YtgocmfjijoibkaaDoor
open Go.RowKit
set_option linter.unusedSimpArgs false
set_option linter.unusedVariables false
set_option linter.unusedVariables false
open Go.Shelf
def sureL : List UInt8 := [115, 117, 114, 101]
/-- The file that was made sure stands. -/
structure SafeX (b : List UInt8) (x : FS) : Prop where
  now : lookF x.now sureL = some b
  sure : lookF x.sure sureL = some b
  st : ∀ s, s ∈ x.T → s.name.data.toList ≠ sureL ∧ s.dst.data.toList ≠ sureL
theorem do_other {F : List Fl} {s : Stp} (h1 : s.name.data.toList ≠ sureL) (h2 : s.dst.data.toList ≠ sureL) : lookF (doF F s) sureL = lookF F sureL := by
  unfold doF
  split
  · rw [lookF_with, if_neg (Ne.symm h1)]
  · split
    · rw [lookF_without, if_neg (Ne.symm h1)]
    · rw [lookF_with, if_neg (Ne.symm h2), lookF_without, if_neg (Ne.symm h1)]
theorem run_other {F : List Fl} : ∀ {T : List Stp}, (∀ s, s ∈ T → s.name.data.toList ≠ sureL ∧ s.dst.data.toList ≠ sureL) → lookF (runF F T) sureL = lookF F sureL := by
  intro T h
  unfold runF
  induction T generalizing F with
  | nil => rfl
  | cons s r ih =>
    have h0 := h s List.mem_cons_self
    rw [List.foldl_cons, ih fun q hq => h q (List.mem_cons_of_mem _ hq), do_other h0.1 h0.2]
theorem empty_ne : (ByteArray.empty).data.toList ≠ sureL := by decide
theorem SafeX.add {b : List UInt8} {x : FS} (h : SafeX b x) (s : Stp) (h1 : s.name.data.toList ≠ sureL) (h2 : s.dst.data.toList ≠ sureL) : SafeX b ⟨doF x.now s, x.sure, x.T ++ [s]⟩ :=
  ⟨by show lookF (doF x.now s) sureL = _; rw [do_other h1 h2]; exact h.now, h.sure, fun q hq => by
    rcases List.mem_append.1 hq with hq | hq
    · exact h.st q hq
    · cases List.mem_singleton.1 hq; exact ⟨h1, h2⟩⟩
theorem safe_do {a : Ac} {b : List UInt8} {x x' : FS} (h : DoR a x x') (hs : SafeX b x) (h1 : a.name.data.toList ≠ sureL) (h2 : a.dst.data.toList ≠ sureL) : SafeX b x' := by
  unfold DoR at h
  split at h
  · unfold MoveR at h; subst h
    split
    · exact hs.add _ h1 h2
    · exact hs
  · split at h
    · unfold RemoveR at h; subst h
      split
      · exact hs.add _ h1 empty_ne
      · exact hs
    · split at h
      · subst h; exact ⟨hs.now, hs.now, fun s hs => by cases hs⟩
      · obtain ⟨v, rfl⟩ := h
        split
        · exact hs.add _ h1 empty_ne
        · exact hs
theorem safe_crash {b : List UInt8} {x : FS} (hs : SafeX b x) (k p : Nat) : SafeX b ⟨crashF x.sure x.T k p, crashF x.sure x.T k p, []⟩ := by
  have h : lookF (crashF x.sure x.T k p) sureL = some b := by
    have ht : ∀ s, s ∈ x.T.take k → s.name.data.toList ≠ sureL ∧ s.dst.data.toList ≠ sureL := fun s h => hs.st s (List.mem_of_mem_take h)
    unfold crashF
    split
    · rename_i s he
      have h0 := hs.st s (List.mem_of_getElem? he)
      split
      · rw [do_other (s := cutS s p) h0.1 h0.2, run_other ht]; exact hs.sure
      · rw [run_other ht]; exact hs.sure
    · rw [run_other ht]; exact hs.sure
  exact ⟨h, h, fun s hs => by cases hs⟩
def LoS (B d : Nat) (w1 wl : World) (b : List UInt8) : Prop := Below B w1 wl ∧ ∃ x, DiskOk wl B d x ∧ SafeX b x
def S12 (g o : Nat) (a : Ac) (w : World) : Prop := AcAt w g o a ∧ g < w.heap.size
theorem S12.of {g o : Nat} {a : Ac} {w w' : World} {B : Nat} (h : S12 g o a w) (hF : Below B w w') (hg : g < B) (hw : w.heap.size ≤ w'.heap.size) : S12 g o a w' := ⟨h.1.below hF hg, Nat.lt_of_lt_of_le h.2 hw⟩
theorem S12.set {g o : Nat} {a : Ac} {w : World} (h : S12 g o a w) {p : Nat} (hg : g < p) (j : Nat) (v : Value) : S12 g o a (w.setCell ⟨p, j, none⟩ v) := ⟨acAt_far h.1 hg j v, by simpa using h.2⟩
theorem write_safe (B d : Nat) (x : FS) (bs : List UInt8) (v : Value) (w : World) (h : DiskOk w B d x) (hv : RdY w v bs) (hl : bs.length ≤ 9223372036854775807) :
    Calls Tryd.prog 9 #[.pointer (some ⟨d, 0, none⟩), .string ⟨#[115, 117, 114, 101]⟩, v] w (fun y w' => ∃ n, y = .returned (errI n) ∧ (∃ x', DiskOk w' B d x' ∧ (n = 0 → lookF x'.now sureL = some bs)) ∧ Fr B w w') := by
  refine Calls.mono (write_ok B d x ⟨#[115, 117, 114, 101]⟩ v bs w h hv hl) ?_
  rintro y w' ⟨rfl, ⟨x', ⟨v2, hx'⟩, hd⟩, hF⟩
  refine ⟨_, rfl, ⟨x', hd, fun hn => ?_⟩, hF⟩
  rw [if_pos hn] at hx'
  rw [hx']
  show lookF (withF x.now (sureL, bs)) sureL = some bs
  rw [lookF_with, if_pos rfl]
theorem u64m_bdT (z : Int) (n : Nat) : 0 ≤ (IntKind.u64.wrap z).tmod ((n : Int) + 1) ∧ (IntKind.u64.wrap z).tmod ((n : Int) + 1) < (n : Int) + 1 := by
  have h0 : 0 ≤ IntKind.u64.wrap z := by rw [u64w]; omega
  rw [Int.tmod_eq_emod_of_nonneg h0]
  exact ⟨Int.emod_nonneg _ (by omega), Int.emod_lt_of_pos _ (by omega)⟩
theorem crash_safe (B d : Nat) (x : FS) (k p : Nat) (bl : List UInt8) (w : World) (h : DiskOk w B d x) (hs : SafeX bl x) (hk : k ≤ x.T.length) (hp : p ≤ 9223372036854775807) :
    Calls Tryd.prog 22 #[.pointer (some ⟨d, 0, none⟩), .int .i64 k, .int .i64 p] w (OkSaid B d (fun x' => SafeX bl x') w) := by
  have hl := h.1.st.1
  have hcb : ¬ crashBad x.T.length k p := by unfold crashBad; omega
  refine Calls.mono (crash_ok B d x k p (by omega) (by omega) (by omega) (by omega) w h) fun y w' h => h.ok (if_neg hcb) ?_
  intro x' hx
  rw [if_neg hcb, Int.toNat_natCast, Int.toNat_natCast] at hx
  rw [hx]; exact safe_crash hs k p
set_option maxHeartbeats 16000000 in
set_option maxRecDepth 100000 in
theorem filesSafe_walk (v1 v2 : Value) (X Y : List Ac) (b : ByteArray) (w : World) (hg : ErrType w) (hX : RdA w v1 w.heap.size X) (hY : RdA w v2 w.heap.size Y) (hl : X.length ≤ 9223372036854775807) (hl2 : Y.length ≤ 9223372036854775807) (hok : ∀ a, a ∈ X → AcOk a) (hok2 : ∀ a, a ∈ Y → AcOk a) (hbz : b.size ≤ 9223372036854775807) :
    Calls Tryd.prog 6 #[v1, v2, .string b] w (SureSaid w) := by
  obtain ⟨A, cap, rfl⟩ := hX.form
  obtain ⟨A', cap', rfl⟩ := hY.form
  have NW := new_ok w
  have SW0 := sure_walk w
  have HXX := Lib.hid hX
  have HYY := Lib.hid hY
  have HOK := Lib.hid hok
  have HOK2 := Lib.hid hok2
  have HG := Lib.hid hg
  clear hX hY hok hok2 hg
  by_cases hb3 : 3000 < b.size
  · have hb3' : (3000 : Int) < (b.size : Int) := by omega
    clear NW
    go_enter Tryd.func6, Tryd.ntmps6
    go_wp2_with (fail)
    refine Calls.mono SW0 ?_
    rintro y w9 ⟨rfl, hB9⟩
    have HR := Lib.hid hB9
    clear SW0 hB9
    go_wp2_with (fail)
    go_ret
    exact ⟨rfl, HR.out⟩
  have hb3' : ¬ (3000 : Int) < (b.size : Int) := by omega
  clear SW0
  go_enter Tryd.func6, Tryd.ntmps6
  go_upto_region 3 with (fail)
  go_wp2_with (fail)
  refine Calls.mono NW ?_
  rintro y w1 ⟨d, rfl, hd, hB1⟩
  generalize hB : w.heap.size = B at *
  have HB1 := Lib.hid hB1
  have HA := Lib.hid (HXX.out.below hB1 (Nat.le_refl _))
  have HAY := Lib.hid (HYY.out.below hB1 (Nat.le_refl _))
  have HG1 := Lib.hid (show ErrType w1 from HG.out.below (by rw [hB]; exact hB1))
  have HGB := Lib.hid (show 0 < B by rw [← hB]; exact HG.out.lt)
  have hal := (Below.refl w1.heap.size w1).alloc (Nat.le_refl _) (.cells #[.slice none 0 0, .slice none 0 0, .slice none 0 0] 41)
  have hBs := hd.1.lo.2
  have H0 := Lib.hid (show LoX B d w1.heap.size w1 (w1.alloc (.cells #[.slice none 0 0, .slice none 0 0, .slice none 0 0] 41)) from ⟨⟨[], [], []⟩, _, _, _, Blk.new w1 41 _, ⟨⟨_, _, _, rfl, RdF.nil _, RdF.nil _, RdD.nil _⟩, hd.below hal⟩, hal.mono hBs⟩)
  have HBS := Lib.hid hBs
  clear NW hd hB1 hal HXX HYY HG hBs
  go_upto_region 7 with (fail)
  generalize w1.alloc (.cells #[.slice none 0 0, .slice none 0 0, .slice none 0 0] 41) = w1a at *
  generalize hq : w1.heap.size = q at *
  have HQB := Lib.hid (show B ≤ q from HBS.out)
  go_wp2_with (fail)
  go_loopw [9] (fun iv wl => ∃ i : Nat, iv = .int .i64 i ∧ i ≤ 40 ∧ LoX B d q w1 wl) (fun iv _ => 40 - (intOf iv).toNat)
  case atStart => exact ⟨0, rfl, by omega, H0.out⟩
  case round =>
    obtain ⟨wl, rfl⟩ : ∃ Z, Z = wr := ⟨_, rfl⟩
    obtain ⟨i, rfl, hi, hI⟩ := hrel
    have HI := Lib.hid hI
    clear hI H0
    have i0 : (0 : Int) ≤ i := by omega
    obtain ⟨x, A1, l1, c1, A2, l2, c2, A3, l3, c3, hblk, hboth, hbel⟩ := HI.out.open_
    have HBL := Lib.hid hbel
    have HBO := Lib.hid hboth
    have HBK := Lib.hid hblk
    clear hbel hboth hblk HI
    by_cases hil : i < X.length
    · have hil' : (i : Int) < (X.length : Int) := by omega
      by_cases hi60 : i < 40
      · have hi60' : (i : Int) < 40 := by omega
        obtain ⟨g, o, rfl, ha0⟩ := HA.out.at_ hil
        have hgB : g < B := by
          rcases HA.out with ⟨A, c, e, _, h0⟩ | ⟨g', o', c, e, hg, _⟩
          · rw [h0] at hil; simp at hil
          · cases e; exact hg
        have ha := ha0.below HBL.out hgB
        have HAC := Lib.hid (HOK.out (X.getD i ac0) (by rw [List.getD_eq_getElem?_getD, List.getElem?_eq_getElem hil]; exact List.getElem_mem _))
        have HAT := Lib.hid ha
        generalize X.getD i ac0 = a at *
        obtain ⟨x0, x1, x2, x3, x4, x5⟩ := ha
        have zg := World.block_lt_of_cell? _ _ x0
        by_cases hab : 3000 < a.b.size
        · have hab' : (3000 : Int) < (a.b.size : Int) := by omega
          have SW := sure_walk wl
          have HBT := Lib.hid (HB1.out.trans HBL.out)
          have HLO := Lib.hid HBO.out.2.1.lo.2
          go_wp2_with (fail)
          refine Calls.mono SW ?_
          rintro y w9 ⟨rfl, hB9⟩
          have HR := Lib.hid (show Below B w w9 from HBT.out.trans (hB9.mono HLO.out))
          clear SW hB9
          go_wp2_with (fail)
          go_ret
          exact ⟨rfl, by rw [hB]; exact HR.out⟩
        · have hab' : ¬ (3000 : Int) < (a.b.size : Int) := by omega
          go_upto_region 12 with (fail)
          clear hab hab' x0 x1 x2 x3 x4 x5 zg
          have HS0 := Lib.hid (show S12 g (o + i * 6) a wl from ⟨HAT.out, Nat.lt_of_lt_of_le hgB HBO.out.2.1.lo.2⟩)
          have TC := Lib.hid (fun (w' : World) (h : Both B d w' (.agg #[.slice A1 l1 c1, .slice A2 l2 c2, .slice A3 l3 c3]) x) (hg : ErrType w') => tryl_walk B d a _ x w' HGB.out hg h HAC.out.n HAC.out.d HAC.out.b HAC.out.s.1 HAC.out.s.2 HAC.out.p.1 HAC.out.p.2)
          have HGL := Lib.hid (show ErrType wl from (HBL.out.cell (p := ⟨0, 0, none⟩) HGB.out).trans HG1.out)
          refine wp_region_noPanic ?_
          refine wp_region_held_drew (S := (fun w' => S12 g (o + i * 6) a w')) (by kernel_rfl) ?_ (fun hHeld => ?_)
          · exact HS0.out.of (below_drewN (Below.refl B _) 1) hgB (Nat.le_refl _)
          have bd : Below wl.heap.size wl wl.drew := below_drewN (Below.refl wl.heap.size wl) 1
          have HBd := Lib.hid (HBO.out.below bd)
          have HGd := Lib.hid (HGL.out.below bd)
          have HLd := Lib.hid (HBL.out.trans (bd.mono HBO.out.2.1.lo.2))
          have HKd := Lib.hid (HBK.out.below bd)
          clear bd HBL HBO HBK HGL
          generalize wl.drew = wd at *
          refine reg_take (i := 0) (oi := _) (v := ?_) rfl (by kernel_rfl) (by kernel_rfl) (by kernel_rfl) (fun _ _ _ h => h) (by rfl) ?_ (by assumption) ?_
          rotate_left
          · intro w hSw; (try dsimp only at hSw); have x0 := hSw.1.k; have x1 := hSw.1.n; have x2 := hSw.1.d; have x3 := hSw.1.b; have x4 := hSw.1.s; have x5 := hSw.1.p; have zg := hSw.2; go_simp; try with_reducible rfl
          (try simp only [Act.put, List.setIfInBounds_toArray, List.set_cons_zero, List.set_cons_succ])
          refine reg_take (i := 2) (oi := _) (v := ?_) rfl (by kernel_rfl) (by kernel_rfl) (by kernel_rfl) (fun _ _ _ h => h) (by rfl) ?_ (by assumption) ?_
          rotate_left
          · intro w hSw; (try dsimp only at hSw); have x0 := hSw.1.k; have x1 := hSw.1.n; have x2 := hSw.1.d; have x3 := hSw.1.b; have x4 := hSw.1.s; have x5 := hSw.1.p; have zg := hSw.2; go_simp; try with_reducible rfl
          (try simp only [Act.put, List.setIfInBounds_toArray, List.set_cons_zero, List.set_cons_succ])
          refine reg_take (i := 3) (oi := _) (v := ?_) rfl (by kernel_rfl) (by kernel_rfl) (by kernel_rfl) (fun _ _ _ h => h) (by rfl) ?_ (by assumption) ?_
          rotate_left
          · intro w hSw; (try dsimp only at hSw); have x0 := hSw.1.k; have x1 := hSw.1.n; have x2 := hSw.1.d; have x3 := hSw.1.b; have x4 := hSw.1.s; have x5 := hSw.1.p; have zg := hSw.2; go_simp; try with_reducible rfl
          (try simp only [Act.put, List.setIfInBounds_toArray, List.set_cons_zero, List.set_cons_succ])
          refine reg_take (i := 4) (oi := _) (v := ?_) rfl (by kernel_rfl) (by kernel_rfl) (by kernel_rfl) (fun _ _ _ h => h) (by rfl) ?_ (by assumption) ?_
          rotate_left
          · intro w hSw; (try dsimp only at hSw); have x0 := hSw.1.k; have x1 := hSw.1.n; have x2 := hSw.1.d; have x3 := hSw.1.b; have x4 := hSw.1.s; have x5 := hSw.1.p; have zg := hSw.2; go_simp; try with_reducible rfl
          (try simp only [Act.put, List.setIfInBounds_toArray, List.set_cons_zero, List.set_cons_succ])
          refine reg_take (i := 5) (oi := _) (v := ?_) rfl (by kernel_rfl) (by kernel_rfl) (by kernel_rfl) (fun _ _ _ h => h) (by rfl) ?_ (by assumption) ?_
          rotate_left
          · intro w hSw; (try dsimp only at hSw); have x0 := hSw.1.k; have x1 := hSw.1.n; have x2 := hSw.1.d; have x3 := hSw.1.b; have x4 := hSw.1.s; have x5 := hSw.1.p; have zg := hSw.2; go_simp; try with_reducible rfl
          (try simp only [Act.put, List.setIfInBounds_toArray, List.set_cons_zero, List.set_cons_succ])
          refine wpAnyH_ready (rs := [1]) (by kernel_rfl) (by simp) ?_
          refine reg_each (o := _) rfl (fun K hK => ?_) ?_
          · skip
            have kQ := HKd.out
            have d0 : wd.cell? ⟨q, 0, none⟩ = some (.slice A1 l1 c1) := by rw [kQ.cell]; rfl
            have d1 : wd.cell? ⟨q, 1, none⟩ = some (.slice A2 l2 c2) := by rw [kQ.cell]; rfl
            have d2 : wd.cell? ⟨q, 2, none⟩ = some (.slice A3 l3 c3) := by rw [kQ.cell]; rfl
            have zq := kQ.lt
            clear kQ
            go_simp
            refine hK.out _ _ ?_ (fun hHeld2 => ?_)
            · exact hHeld
            clear hK K hHeld
            have hHeld := hHeld2
            clear hHeld2
            (try simp only [Act.put, List.setIfInBounds_toArray, List.set_cons_zero, List.set_cons_succ])
            clear d0 d1 d2 zq
            refine wpAnyH_ready (rs := [6]) (by kernel_rfl) (by simp) ?_
            refine reg_each (o := _) rfl (fun K hK => ?_) ?_
            · skip
              go_simp
              refine (TC.out _ HBd.out HGd.out).mono ?_
              rintro r w6 ⟨v6, x6, rfl, hbo, hF6⟩
              obtain ⟨⟨u1, u2, u3, eu, g1, g2, g3⟩, hdk⟩ := hbo
              subst eu
              obtain ⟨B1, e1, rfl⟩ := g1.form
              obtain ⟨B2, e2, rfl⟩ := g2.form
              obtain ⟨B3, e3, rfl⟩ := g3.form
              have HB6 := Lib.hid (show Both B d w6 (.agg #[.slice B1 x6.now.length e1, .slice B2 x6.sure.length e2, .slice B3 x6.T.length e3]) x6 from ⟨⟨_, _, _, rfl, g1, g2, g3⟩, hdk⟩)
              have HF6 := Lib.hid hF6
              clear hF6 g1 g2 g3 hdk
              go_wp2_with (fail)
              refine hK.out _ _ ?_ (fun hHeld2 => ?_)
              · exact hHeld.of HF6.out.1 hgB HF6.out.2.1
              clear hK K hHeld
              have hHeld := hHeld2
              clear hHeld2
              (try simp only [Act.put, List.setIfInBounds_toArray, List.set_cons_zero, List.set_cons_succ])
              have HL6 := Lib.hid (HLd.out.trans HF6.out.1)
              have kQ := blk_keptY HKd.out HF6.out.2 (by decide) (by decide)
              have HGQ := Lib.hid (show g < q by have := HQB.out; omega)
              clear HF6 HBd HLd HGd HKd TC
              refine reg_take (i := 7) (oi := _) (v := ?_) rfl (by kernel_rfl) (by kernel_rfl) (by kernel_rfl) (fun _ _ _ h => h) (by rfl) ?_ (by assumption) ?_
              rotate_left
              · intro w hSw; (try dsimp only at hSw); have x0 := hSw.1.k; have x1 := hSw.1.n; have x2 := hSw.1.d; have x3 := hSw.1.b; have x4 := hSw.1.s; have x5 := hSw.1.p; have zg := hSw.2; go_simp; try with_reducible rfl
              (try simp only [Act.put, List.setIfInBounds_toArray, List.set_cons_zero, List.set_cons_succ])
              refine reg_take (i := 8) (oi := _) (v := ?_) rfl (by kernel_rfl) (by kernel_rfl) (by kernel_rfl) (fun _ _ _ h => h) (by rfl) ?_ (by assumption) ?_
              rotate_left
              · intro w hSw; (try dsimp only at hSw); have x0 := hSw.1.k; have x1 := hSw.1.n; have x2 := hSw.1.d; have x3 := hSw.1.b; have x4 := hSw.1.s; have x5 := hSw.1.p; have zg := hSw.2; go_simp; try with_reducible rfl
              (try simp only [Act.put, List.setIfInBounds_toArray, List.set_cons_zero, List.set_cons_succ])
              refine reg_take (i := 9) (oi := _) (v := ?_) rfl (by kernel_rfl) (by kernel_rfl) (by kernel_rfl) (fun _ _ _ h => h) (by rfl) ?_ (by assumption) ?_
              rotate_left
              · intro w hSw; (try dsimp only at hSw); have x0 := hSw.1.k; have x1 := hSw.1.n; have x2 := hSw.1.d; have x3 := hSw.1.b; have x4 := hSw.1.s; have x5 := hSw.1.p; have zg := hSw.2; go_simp; try with_reducible rfl
              (try simp only [Act.put, List.setIfInBounds_toArray, List.set_cons_zero, List.set_cons_succ])
              refine wpAnyH_ready (rs := [10]) (by kernel_rfl) (by simp) ?_
              refine reg_each (o := _) rfl (fun K hK => ?_) ?_
              · skip
                have y0 : w6.cell? ⟨q, 0, none⟩ = some (.slice A1 l1 c1) := by rw [kQ.cell]; rfl
                have y1 : w6.cell? ⟨q, 1, none⟩ = some (.slice A2 l2 c2) := by rw [kQ.cell]; rfl
                have y2 : w6.cell? ⟨q, 2, none⟩ = some (.slice A3 l3 c3) := by rw [kQ.cell]; rfl
                have f0 := kQ.frozen 0
                have f1 := kQ.frozen 1
                have f2 := kQ.frozen 2
                have zq := kQ.lt
                go_simp
                refine hK.out _ _ ?_ (fun hHeld2 => ?_)
                · exact ((hHeld.set HGQ.out 0 _).set HGQ.out 1 _).set HGQ.out 2 _
                clear hK K hHeld
                have hHeld := hHeld2
                clear hHeld2
                (try simp only [Act.put, List.setIfInBounds_toArray, List.set_cons_zero, List.set_cons_succ])
                refine wpAnyH_done (by kernel_rfl) ?_ _
                refine NoPanic.normal ?_
                clear hHeld y0 y1 y2 f0 f1 f2 zq
                have HNX := Lib.hid (show LoX B d q w1 (((w6.setCell ⟨q, 0, none⟩ (.slice B1 x6.now.length e1)).setCell ⟨q, 1, none⟩ (.slice B2 x6.sure.length e2)).setCell ⟨q, 2, none⟩ (.slice B3 x6.T.length e3)) from ⟨x6, _, _, _, ((kQ.put 0 (.slice B1 x6.now.length e1) rfl).put 1 (.slice B2 x6.sure.length e2) rfl).put 2 (.slice B3 x6.T.length e3) rfl, both_end HB6.out.2 HB6.out.1 kQ, below_set3 HL6.out HQB.out⟩)
                clear kQ
                go_wp2_with (fail)
                go_roundw
                case rel => exact ⟨i + 1, by go_num, by omega, HNX.out⟩
                case measure => simp [intOf]; omega
              exact AllReadyH.nil
            exact AllReadyH.nil
          exact AllReadyH.nil
      · have hi60' : ¬ (i : Int) < 40 := by omega
        have HD := Lib.hid HBO.out.2
        obtain ⟨cc, hcv, hrd⟩ := str_bytes b wl
        have hcv9 := hcv 9 Tryd.underlying9
        have hbc := (below_drewN (Below.refl wl.heap.size wl) 1).alloc (Nat.le_refl _) (Obj.cells (bytesRow b cc) 5 ((bytesRow b cc).size, (bytesRow b cc).size + 1))
        have CW := write_safe B d x b.data.toList _ _ (HD.out.below hbc) hrd hbz
        have HLc := Lib.hid (HBL.out.trans (hbc.mono HD.out.1.lo.2))
        clear hcv hrd hbc HBO HBL HBK
        go_upto_region 13 with (fail)
        go_wp2_with (fail)
        refine Calls.mono CW ?_
        rintro y w2 ⟨n, rfl, ⟨x2, hd2, hn2⟩, hF2⟩
        have HL2 := Lib.hid (HLc.out.trans hF2.1)
        have HD2 := Lib.hid hd2
        clear CW hd2 hF2 HLc HD hcv9
        by_cases hz : n = 0
        rotate_left
        · rw [errI_ne hz]
          clear hz hn2
          have SW := sure_walk w2
          have HBT := Lib.hid (HB1.out.trans HL2.out)
          have HLO := Lib.hid (HD2.out.1.lo.2)
          go_wp2_with (fail)
          refine Calls.mono SW ?_
          rintro y w9 ⟨rfl, hB9⟩
          have HR := Lib.hid (show Below B w w9 from HBT.out.trans (hB9.mono HLO.out))
          clear SW hB9
          go_wp2_with (fail)
          go_ret
          exact ⟨rfl, by rw [hB]; exact HR.out⟩
        have HSX := Lib.hid (show SafeX b.data.toList ⟨x2.now, x2.now, []⟩ from ⟨hn2 hz, hn2 hz, fun s hs => by cases hs⟩)
        rw [hz, errI_zero]
        clear hz hn2
        have SY := sure2 B d x2 w2 HD2.out
        go_upto_region 15 with (fail)
        go_wp2_with (fail)
        refine Calls.mono SY ?_
        rintro y w3 ⟨rfl, ⟨x3, rfl, hd3⟩, hF3⟩
        have HI2 := Lib.hid (show LoS B d w1 w3 b.data.toList from ⟨HL2.out.trans hF3.1, _, hd3, HSX.out⟩)
        clear SY hd3 hF3 HSX HD2 HL2
        generalize hbl : b.data.toList = bl at *
        have HBLE := Lib.hid hbl
        clear hbl
        go_upto_region 17 with (fail)
        go_wp2_with (fail)
        go_loopw [10, 11] (fun iv _ wy => ∃ k : Nat, iv = .int .i64 k ∧ k ≤ 40 ∧ LoS B d w1 wy bl) (fun iv _ _ => 40 - (intOf iv).toNat)
        case atStart => exact ⟨0, rfl, by omega, HI2.out⟩
        case round =>
          obtain ⟨wy, rfl⟩ : ∃ Z, Z = wr := ⟨_, rfl⟩
          obtain ⟨k, rfl, hk, hJ⟩ := hrel
          obtain ⟨hJ1, x, hJ2, hJ3⟩ := hJ
          have HJ1 := Lib.hid hJ1
          have HJ2 := Lib.hid hJ2
          have HJ3 := Lib.hid hJ3
          clear hJ1 hJ2 hJ3 HI2
          have k0 : (0 : Int) ≤ k := by omega
          by_cases hkl : k < Y.length
          · have hkl' : (k : Int) < (Y.length : Int) := by omega
            by_cases hk40 : k < 40
            · have hk40' : (k : Int) < 40 := by omega
              obtain ⟨g2, o2, rfl, ha0⟩ := HAY.out.at_ hkl
              have hgB2 : g2 < B := by
                rcases HAY.out with ⟨A, c, e, _, h0⟩ | ⟨g', o', c, e, hg, _⟩
                · rw [h0] at hkl; simp at hkl
                · cases e; exact hg
              have ha := ha0.below HJ1.out hgB2
              generalize Y.getD k ac0 = a at *
              obtain ⟨kind, name, dst, bb, st, pt⟩ := a
              obtain ⟨nm, rfl⟩ : ∃ nm : List UInt8, name = ⟨nm.toArray⟩ := ⟨name.data.toList, rfl⟩
              obtain ⟨ds, rfl⟩ : ∃ ds : List UInt8, dst = ⟨ds.toArray⟩ := ⟨dst.data.toList, rfl⟩
              obtain ⟨x0, x1, x2', x3', x4, x5⟩ := ha
              dsimp only at x0 x1 x2' x3' x4 x5
              have zg := World.block_lt_of_cell? _ _ x0
              clear ha0
              by_cases hab : 3000 < bb.size
              · have hab' : (3000 : Int) < (bb.size : Int) := by omega
                go_wp2_with (fail)
                go_roundw
                case rel => exact ⟨k + 1, by go_num, by omega, HJ1.out, x, HJ2.out, HJ3.out⟩
                case measure => simp [intOf]; omega
              have hab' : ¬ (3000 : Int) < (bb.size : Int) := by omega
              cases hnm : (nm == [115, 117, 114, 101]) with
              | true =>
                go_wp2_with (fail)
                go_roundw
                case rel => exact ⟨k + 1, by go_num, by omega, HJ1.out, x, HJ2.out, HJ3.out⟩
                case measure => simp [intOf]; omega
              | false =>
                cases hds : (ds == [115, 117, 114, 101]) with
                | true =>
                  go_wp2_with (fail)
                  go_roundw
                  case rel => exact ⟨k + 1, by go_num, by omega, HJ1.out, x, HJ2.out, HJ3.out⟩
                  case measure => simp [intOf]; omega
                | false =>
                  go_upto_region 22 with (fail)
                  have HNM := Lib.hid (show nm ≠ sureL from fun e => by rw [e] at hnm; exact absurd hnm (by decide))
                  have HDS := Lib.hid (show ds ≠ sureL from fun e => by rw [e] at hds; exact absurd hds (by decide))
                  clear x0 x1 x2' x3' x4 x5 zg hab' hnm hds
                  have hal := (Below.refl wy.heap.size wy).alloc (Nat.le_refl _) (Obj.cells #[.int .i64 kind, .string ⟨nm.toArray⟩, .string ⟨ds.toArray⟩, .string bb, .int .i64 st, .int .i64 pt] 43)
                  have hb := Blk.new wy 43 #[.int .i64 kind, .string ⟨nm.toArray⟩, .string ⟨ds.toArray⟩, .string bb, .int .i64 st, .int .i64 pt]
                  have HKB := Lib.hid hb
                  have HAL := Lib.hid hal
                  clear hb hal
                  generalize wy.alloc (Obj.cells #[.int .i64 kind, .string ⟨nm.toArray⟩, .string ⟨ds.toArray⟩, .string bb, .int .i64 st, .int .i64 pt] 43) = wb at *
                  generalize hp11 : wy.heap.size = p11 at *
                  have HP11 := Lib.hid hp11
                  clear hp11
                  have q0 : wb.cell? ⟨p11, 0, none⟩ = some (.int .i64 kind) := by rw [HKB.out.cell]; rfl
                  have q1 : wb.cell? ⟨p11, 1, none⟩ = some (.string ⟨nm.toArray⟩) := by rw [HKB.out.cell]; rfl
                  have q2 : wb.cell? ⟨p11, 2, none⟩ = some (.string ⟨ds.toArray⟩) := by rw [HKB.out.cell]; rfl
                  have q3 : wb.cell? ⟨p11, 3, none⟩ = some (.string bb) := by rw [HKB.out.cell]; rfl
                  have q4 : wb.cell? ⟨p11, 4, none⟩ = some (.int .i64 st) := by rw [HKB.out.cell]; rfl
                  have q5 : wb.cell? ⟨p11, 5, none⟩ = some (.int .i64 pt) := by rw [HKB.out.cell]; rfl
                  have zq := HKB.out.lt
                  have f4 := HKB.out.frozen 4
                  have f5 := HKB.out.frozen 5
                  have hmod : ((IntKind.u64.wrap kind).tmod 6) = acM (⟨kind, ⟨nm.toArray⟩, ⟨ds.toArray⟩, bb, st, pt⟩ : Ac) := rfl
                  have hm := acM_bd (⟨kind, ⟨nm.toArray⟩, ⟨ds.toArray⟩, bb, st, pt⟩ : Ac)
                  have hmw : IntKind.i64.wrap (acM (⟨kind, ⟨nm.toArray⟩, ⟨ds.toArray⟩, bb, st, pt⟩ : Ac)) = acM (⟨kind, ⟨nm.toArray⟩, ⟨ds.toArray⟩, bb, st, pt⟩ : Ac) := by rw [IntKind.wrap_i64]; omega
                  generalize acM (⟨kind, ⟨nm.toArray⟩, ⟨ds.toArray⟩, bb, st, pt⟩ : Ac) = m at *
                  have HDB := Lib.hid (HJ2.out.below (show Below wy.heap.size wy wb by rw [HP11.out]; exact HAL.out))
                  have HLB := Lib.hid (HJ1.out.trans (HAL.out.mono (by rw [← HP11.out]; exact HJ2.out.1.lo.2)))
                  by_cases hm5 : m = 5
                  rotate_left
                  · have CW := act_walk B d (⟨kind, ⟨nm.toArray⟩, ⟨ds.toArray⟩, bb, st, pt⟩ : Ac) (by show bb.size ≤ 1000000; omega) x wb HDB.out
                    go_upto_region 27 with (fail)
                    go_wp2_with (fail)
                    refine Calls.mono CW ?_
                    rintro y w5 ⟨rfl, ⟨x5, hd5, hx5⟩, hF5⟩
                    have HS5 := Lib.hid (safe_do hd5 HJ3.out HNM.out HDS.out)
                    have HD5 := Lib.hid hx5
                    have HL5 := Lib.hid (HLB.out.trans hF5.1)
                    clear CW hd5 hx5 hF5 q0 q1 q2 q3 q4 q5 zq f4 f5
                    go_wp2_with (fail)
                    go_roundw
                    case rel => exact ⟨k + 1, by go_num, by omega, HL5.out, x5, HD5.out, HS5.out⟩
                    case measure => simp [intOf]; omega
                  subst hm5
                  have hT4 := HDB.out.1.st.1
                  obtain ⟨s5, hs5⟩ : ∃ s5 : Nat, (IntKind.u64.wrap st).tmod ((x.T.length : Int) + 1) = (s5 : Int) := ⟨_, (Int.toNat_of_nonneg (u64m_bdT st x.T.length).1).symm⟩
                  have hs5T : s5 ≤ x.T.length := by have := (u64m_bdT st x.T.length).2; omega
                  have hs5w : IntKind.i64.wrap (s5 : Int) = (s5 : Int) := by rw [IntKind.wrap_i64]; omega
                  obtain ⟨p5, hp5⟩ : ∃ p5 : Nat, (IntKind.u64.wrap pt).tmod 5 = (p5 : Int) := ⟨_, (Int.toNat_of_nonneg (u64m_bd pt 5 (by omega)).1).symm⟩
                  have hp55 : p5 < 5 := by have := (u64m_bd pt 5 (by omega)).2; omega
                  have hp5w : IntKind.i64.wrap (p5 : Int) = (p5 : Int) := by rw [IntKind.wrap_i64]; omega
                  have s50 : (0 : Int) ≤ s5 := by omega
                  have hwi : IntKind.i64.wrap ((x.T.length : Int) + 1) = (x.T.length : Int) + 1 := by rw [IntKind.wrap_i64]; omega
                  have hwu : IntKind.u64.wrap ((x.T.length : Int) + 1) = (x.T.length : Int) + 1 := by rw [u64w]; omega
                  have hne0 : ¬ ((x.T.length : Int) + 1 = 0) := by omega
                  have p50 : (0 : Int) ≤ p5 := by omega
                  go_upto_region 23 with (fail)
                  clear hmod hmw hm
                  clear q0 q1 q2 q3 q4 q5 zq f4 f5
                  refine wp_region_noPanic ?_
                  refine wp_region_held_drew (S := (fun w' => p11 < w'.heap.size)) (by kernel_rfl) ?_ (fun hHeld => ?_)
                  · exact HKB.out.lt
                  have bd : Below wb.heap.size wb wb.drew := below_drewN (Below.refl wb.heap.size wb) 1
                  have HKd := Lib.hid (HKB.out.below bd)
                  have HDd := Lib.hid (HDB.out.below bd)
                  have HLd := Lib.hid (HLB.out.trans (bd.mono HDB.out.1.lo.2))
                  have HAd := Lib.hid (show Below p11 wy wb.drew from HAL.out.trans (bd.mono (Nat.le_of_lt HKB.out.lt)))
                  clear bd
                  generalize wb.drew = wd at *
                  refine reg_take (i := 0) (oi := _) (v := ?_) rfl (by kernel_rfl) (by kernel_rfl) (by kernel_rfl) (fun _ _ _ h => h) (by rfl) ?_ (by assumption) ?_
                  rotate_left
                  · intro w hSw; (try dsimp only at hSw); have zq := hSw; go_simp; try with_reducible rfl
                  (try simp only [Act.put, List.setIfInBounds_toArray, List.set_cons_zero, List.set_cons_succ])
                  refine reg_take (i := 3) (oi := _) (v := ?_) rfl (by kernel_rfl) (by kernel_rfl) (by kernel_rfl) (fun _ _ _ h => h) (by rfl) ?_ (by assumption) ?_
                  rotate_left
                  · intro w hSw; (try dsimp only at hSw); have zq := hSw; go_simp; try with_reducible rfl
                  (try simp only [Act.put, List.setIfInBounds_toArray, List.set_cons_zero, List.set_cons_succ])
                  refine wpAnyH_ready (rs := [1, 4]) (by kernel_rfl) (by simp) ?_
                  refine reg_each (o := _) rfl (fun K hK => ?_) ?_
                  · skip
                    have q4 : wd.cell? ⟨p11, 4, none⟩ = some (.int .i64 st) := by rw [HKd.out.cell]; rfl
                    have zq := HKd.out.lt
                    go_simp
                    refine hK.out _ _ ?_ (fun hHeld2 => ?_)
                    · exact hHeld
                    clear hK K hHeld
                    have hHeld := hHeld2
                    clear hHeld2
                    (try simp only [Act.put, List.setIfInBounds_toArray, List.set_cons_zero, List.set_cons_succ])
                    clear q4 zq
                    refine reg_take (i := 2) (oi := _) (v := ?_) rfl (by kernel_rfl) (by kernel_rfl) (by kernel_rfl) (fun _ _ _ h => h) (by rfl) ?_ (by assumption) ?_
                    rotate_left
                    · intro w hSw; (try dsimp only at hSw); have zq := hSw; go_simp; try with_reducible rfl
                    (try simp only [Act.put, List.setIfInBounds_toArray, List.set_cons_zero, List.set_cons_succ])
                    refine wpAnyH_ready (rs := [4]) (by kernel_rfl) (by simp) ?_
                    refine reg_each (o := _) rfl (fun K hK => ?_) ?_
                    · skip
                      go_simp
                      refine (pending_walk B d x.now x.sure x.T _ HDd.out.1).mono ?_
                      rintro r wg ⟨rfl, rfl⟩
                      have HHE := Lib.hid hHeld
                      go_wp2_with (fail)
                      refine hK.out _ _ ?_ (fun hHeld2 => ?_)
                      · exact HHE.out
                      clear hK K hHeld
                      have hHeld := hHeld2
                      clear hHeld2
                      (try simp only [Act.put, List.setIfInBounds_toArray, List.set_cons_zero, List.set_cons_succ])
                      clear HHE
                      refine reg_take (i := 5) (oi := _) (v := ?_) rfl (by kernel_rfl) (by kernel_rfl) (by kernel_rfl) (fun _ _ _ h => h) (by rfl) ?_ (by assumption) ?_
                      rotate_left
                      · intro w hSw; (try dsimp only at hSw); have zq := hSw; go_simp; try with_reducible rfl
                      (try simp only [Act.put, List.setIfInBounds_toArray, List.set_cons_zero, List.set_cons_succ])
                      refine reg_take (i := 6) (oi := _) (v := ?_) rfl (by kernel_rfl) (by kernel_rfl) (by kernel_rfl) (fun _ _ _ h => h) (by rfl) ?_ (by assumption) ?_
                      rotate_left
                      · intro w hSw; (try dsimp only at hSw); have zq := hSw; go_simp; try with_reducible rfl
                      (try simp only [Act.put, List.setIfInBounds_toArray, List.set_cons_zero, List.set_cons_succ])
                      refine reg_take (i := 7) (oi := _) (v := ?_) rfl (by kernel_rfl) (by kernel_rfl) (by kernel_rfl) (fun _ _ _ h => h) (by rfl) ?_ (by assumption) ?_
                      rotate_left
                      · intro w hSw; (try dsimp only at hSw); have zq := hSw; go_simp; try with_reducible rfl
                      (try simp only [Act.put, List.setIfInBounds_toArray, List.set_cons_zero, List.set_cons_succ])
                      refine reg_take (i := 8) (oi := _) (v := ?_) rfl (by kernel_rfl) (by kernel_rfl) (by kernel_rfl) (fun _ _ _ h => h) (by rfl) ?_ (by assumption) ?_
                      rotate_left
                      · intro w hSw; (try dsimp only at hSw); have zq := hSw; go_simp; try with_reducible rfl
                      (try simp only [Act.put, List.setIfInBounds_toArray, List.set_cons_zero, List.set_cons_succ])
                      refine reg_take (i := 9) (oi := _) (v := ?_) rfl (by kernel_rfl) (by kernel_rfl) (by kernel_rfl) (fun _ _ _ h => h) (by rfl) ?_ (by assumption) ?_
                      rotate_left
                      · intro w hSw; (try dsimp only at hSw); have zq := hSw; go_simp; try with_reducible rfl
                      (try simp only [Act.put, List.setIfInBounds_toArray, List.set_cons_zero, List.set_cons_succ])
                      refine wpAnyH_ready (rs := [10]) (by kernel_rfl) (by simp) ?_
                      refine reg_each (o := _) rfl (fun K hK => ?_) ?_
                      · skip
                        have q4 : wg.cell? ⟨p11, 4, none⟩ = some (.int .i64 st) := by rw [HKd.out.cell]; rfl
                        have zq := HKd.out.lt
                        have f4 := HKd.out.frozen 4
                        go_simp
                        refine hK.out _ _ ?_ (fun hHeld2 => ?_)
                        · exact (by simpa using HKd.out.lt)
                        clear hK K hHeld
                        have hHeld := hHeld2
                        clear hHeld2
                        (try simp only [Act.put, List.setIfInBounds_toArray, List.set_cons_zero, List.set_cons_succ])
                        refine wpAnyH_done (by kernel_rfl) ?_ _
                        refine NoPanic.normal ?_
                        clear hHeld q4 zq f4
                        have k1 := HKd.out.put 4 (.int .i64 (s5 : Int)) rfl
                        have b1 : Below p11 wy (wg.setCell ⟨p11, 4, none⟩ (.int .i64 (s5 : Int))) := HAd.out.trans ⟨rfl, rfl, rfl, by simp, fun jj hj => heap_far 4 _ (by omega)⟩
                        have HK1 := Lib.hid k1
                        have HE1 := Lib.hid b1
                        clear k1 b1 HKd HDd HLd HAd
                        generalize wg.setCell ⟨p11, 4, none⟩ (.int .i64 (s5 : Int)) = we at *
                        have q0 : we.cell? ⟨p11, 0, none⟩ = some (.int .i64 kind) := by rw [HK1.out.cell]; rfl
                        have q1 : we.cell? ⟨p11, 1, none⟩ = some (.string ⟨nm.toArray⟩) := by rw [HK1.out.cell]; rfl
                        have q2 : we.cell? ⟨p11, 2, none⟩ = some (.string ⟨ds.toArray⟩) := by rw [HK1.out.cell]; rfl
                        have q3 : we.cell? ⟨p11, 3, none⟩ = some (.string bb) := by rw [HK1.out.cell]; rfl
                        have q4 : we.cell? ⟨p11, 4, none⟩ = some (.int .i64 (s5 : Int)) := by rw [HK1.out.cell]; rfl
                        have q5 : we.cell? ⟨p11, 5, none⟩ = some (.int .i64 pt) := by rw [HK1.out.cell]; rfl
                        have zq := HK1.out.lt
                        have f4 := HK1.out.frozen 4
                        have f5 := HK1.out.frozen 5
                        go_upto_region 25 with (fail)
                        clear q0 q1 q2 q3 q4 q5 zq f4 f5
                        have k2 := HK1.out.put 5 (.int .i64 (p5 : Int)) rfl
                        have b2 : Below p11 wy (we.setCell ⟨p11, 5, none⟩ (.int .i64 (p5 : Int))) := HE1.out.trans ⟨rfl, rfl, rfl, by simp, fun jj hj => heap_far 5 _ (by omega)⟩
                        have HK2 := Lib.hid k2
                        have HE2 := Lib.hid b2
                        clear k2 b2 HK1 HE1
                        generalize we.setCell ⟨p11, 5, none⟩ (.int .i64 (p5 : Int)) = wf at *
                        have q0 : wf.cell? ⟨p11, 0, none⟩ = some (.int .i64 kind) := by rw [HK2.out.cell]; rfl
                        have q1 : wf.cell? ⟨p11, 1, none⟩ = some (.string ⟨nm.toArray⟩) := by rw [HK2.out.cell]; rfl
                        have q2 : wf.cell? ⟨p11, 2, none⟩ = some (.string ⟨ds.toArray⟩) := by rw [HK2.out.cell]; rfl
                        have q3 : wf.cell? ⟨p11, 3, none⟩ = some (.string bb) := by rw [HK2.out.cell]; rfl
                        have q4 : wf.cell? ⟨p11, 4, none⟩ = some (.int .i64 (s5 : Int)) := by rw [HK2.out.cell]; rfl
                        have q5 : wf.cell? ⟨p11, 5, none⟩ = some (.int .i64 (p5 : Int)) := by rw [HK2.out.cell]; rfl
                        have zq := HK2.out.lt
                        have f4 := HK2.out.frozen 4
                        have f5 := HK2.out.frozen 5
                        have HDF := Lib.hid (HJ2.out.below (show Below wy.heap.size wy wf by rw [HP11.out]; exact HE2.out))
                        have HLF := Lib.hid (HJ1.out.trans (HE2.out.mono (by rw [← HP11.out]; exact HJ2.out.1.lo.2)))
                        have CW := crash_safe B d x s5 p5 bl wf HDF.out HJ3.out hs5T (by omega)
                        go_wp2_with (fail)
                        refine Calls.mono CW ?_
                        rintro y w5 ⟨rfl, ⟨x5, hs5x, hd5⟩, hF5⟩
                        have HS5 := Lib.hid hs5x
                        have HD5 := Lib.hid hd5
                        have HL5 := Lib.hid (HLF.out.trans hF5.1)
                        clear CW hs5x hd5 hF5 q0 q1 q2 q3 q4 q5 zq f4 f5
                        go_wp2_with (fail)
                        go_roundw
                        case rel => exact ⟨k + 1, by go_num, by omega, HL5.out, x5, HD5.out, HS5.out⟩
                        case measure => simp [intOf]; omega
                      exact AllReadyH.nil
                    exact AllReadyH.nil
                  refine reg_each (o := _) rfl (fun K hK => ?_) ?_
                  · skip
                    go_simp
                    refine (pending_walk B d x.now x.sure x.T _ HDd.out.1).mono ?_
                    rintro r wg ⟨rfl, rfl⟩
                    have HHE := Lib.hid hHeld
                    go_wp2_with (fail)
                    refine hK.out _ _ ?_ (fun hHeld2 => ?_)
                    · exact HHE.out
                    clear hK K hHeld
                    have hHeld := hHeld2
                    clear hHeld2
                    (try simp only [Act.put, List.setIfInBounds_toArray, List.set_cons_zero, List.set_cons_succ])
                    clear HHE
                    refine reg_take (i := 5) (oi := _) (v := ?_) rfl (by kernel_rfl) (by kernel_rfl) (by kernel_rfl) (fun _ _ _ h => h) (by rfl) ?_ (by assumption) ?_
                    rotate_left
                    · intro w hSw; (try dsimp only at hSw); have zq := hSw; go_simp; try with_reducible rfl
                    (try simp only [Act.put, List.setIfInBounds_toArray, List.set_cons_zero, List.set_cons_succ])
                    refine reg_take (i := 6) (oi := _) (v := ?_) rfl (by kernel_rfl) (by kernel_rfl) (by kernel_rfl) (fun _ _ _ h => h) (by rfl) ?_ (by assumption) ?_
                    rotate_left
                    · intro w hSw; (try dsimp only at hSw); have zq := hSw; go_simp; try with_reducible rfl
                    (try simp only [Act.put, List.setIfInBounds_toArray, List.set_cons_zero, List.set_cons_succ])
                    refine wpAnyH_ready (rs := [1]) (by kernel_rfl) (by simp) ?_
                    refine reg_each (o := _) rfl (fun K hK => ?_) ?_
                    · skip
                      have q4 : wg.cell? ⟨p11, 4, none⟩ = some (.int .i64 st) := by rw [HKd.out.cell]; rfl
                      have zq := HKd.out.lt
                      go_simp
                      refine hK.out _ _ ?_ (fun hHeld2 => ?_)
                      · exact hHeld
                      clear hK K hHeld
                      have hHeld := hHeld2
                      clear hHeld2
                      (try simp only [Act.put, List.setIfInBounds_toArray, List.set_cons_zero, List.set_cons_succ])
                      clear q4 zq
                      refine reg_take (i := 2) (oi := _) (v := ?_) rfl (by kernel_rfl) (by kernel_rfl) (by kernel_rfl) (fun _ _ _ h => h) (by rfl) ?_ (by assumption) ?_
                      rotate_left
                      · intro w hSw; (try dsimp only at hSw); have zq := hSw; go_simp; try with_reducible rfl
                      (try simp only [Act.put, List.setIfInBounds_toArray, List.set_cons_zero, List.set_cons_succ])
                      refine reg_take (i := 7) (oi := _) (v := ?_) rfl (by kernel_rfl) (by kernel_rfl) (by kernel_rfl) (fun _ _ _ h => h) (by rfl) ?_ (by assumption) ?_
                      rotate_left
                      · intro w hSw; (try dsimp only at hSw); have zq := hSw; go_simp; try with_reducible rfl
                      (try simp only [Act.put, List.setIfInBounds_toArray, List.set_cons_zero, List.set_cons_succ])
                      refine reg_take (i := 8) (oi := _) (v := ?_) rfl (by kernel_rfl) (by kernel_rfl) (by kernel_rfl) (fun _ _ _ h => h) (by rfl) ?_ (by assumption) ?_
                      rotate_left
                      · intro w hSw; (try dsimp only at hSw); have zq := hSw; go_simp; try with_reducible rfl
                      (try simp only [Act.put, List.setIfInBounds_toArray, List.set_cons_zero, List.set_cons_succ])
                      refine reg_take (i := 9) (oi := _) (v := ?_) rfl (by kernel_rfl) (by kernel_rfl) (by kernel_rfl) (fun _ _ _ h => h) (by rfl) ?_ (by assumption) ?_
                      rotate_left
                      · intro w hSw; (try dsimp only at hSw); have zq := hSw; go_simp; try with_reducible rfl
                      (try simp only [Act.put, List.setIfInBounds_toArray, List.set_cons_zero, List.set_cons_succ])
                      refine wpAnyH_ready (rs := [10]) (by kernel_rfl) (by simp) ?_
                      refine reg_each (o := _) rfl (fun K hK => ?_) ?_
                      · skip
                        have q4 : wg.cell? ⟨p11, 4, none⟩ = some (.int .i64 st) := by rw [HKd.out.cell]; rfl
                        have zq := HKd.out.lt
                        have f4 := HKd.out.frozen 4
                        go_simp
                        refine hK.out _ _ ?_ (fun hHeld2 => ?_)
                        · exact (by simpa using HKd.out.lt)
                        clear hK K hHeld
                        have hHeld := hHeld2
                        clear hHeld2
                        (try simp only [Act.put, List.setIfInBounds_toArray, List.set_cons_zero, List.set_cons_succ])
                        refine wpAnyH_done (by kernel_rfl) ?_ _
                        refine NoPanic.normal ?_
                        clear hHeld q4 zq f4
                        have k1 := HKd.out.put 4 (.int .i64 (s5 : Int)) rfl
                        have b1 : Below p11 wy (wg.setCell ⟨p11, 4, none⟩ (.int .i64 (s5 : Int))) := HAd.out.trans ⟨rfl, rfl, rfl, by simp, fun jj hj => heap_far 4 _ (by omega)⟩
                        have HK1 := Lib.hid k1
                        have HE1 := Lib.hid b1
                        clear k1 b1 HKd HDd HLd HAd
                        generalize wg.setCell ⟨p11, 4, none⟩ (.int .i64 (s5 : Int)) = we at *
                        have q0 : we.cell? ⟨p11, 0, none⟩ = some (.int .i64 kind) := by rw [HK1.out.cell]; rfl
                        have q1 : we.cell? ⟨p11, 1, none⟩ = some (.string ⟨nm.toArray⟩) := by rw [HK1.out.cell]; rfl
                        have q2 : we.cell? ⟨p11, 2, none⟩ = some (.string ⟨ds.toArray⟩) := by rw [HK1.out.cell]; rfl
                        have q3 : we.cell? ⟨p11, 3, none⟩ = some (.string bb) := by rw [HK1.out.cell]; rfl
                        have q4 : we.cell? ⟨p11, 4, none⟩ = some (.int .i64 (s5 : Int)) := by rw [HK1.out.cell]; rfl
                        have q5 : we.cell? ⟨p11, 5, none⟩ = some (.int .i64 pt) := by rw [HK1.out.cell]; rfl
                        have zq := HK1.out.lt
                        have f4 := HK1.out.frozen 4
                        have f5 := HK1.out.frozen 5
                        go_upto_region 25 with (fail)
                        clear q0 q1 q2 q3 q4 q5 zq f4 f5
                        have k2 := HK1.out.put 5 (.int .i64 (p5 : Int)) rfl
                        have b2 : Below p11 wy (we.setCell ⟨p11, 5, none⟩ (.int .i64 (p5 : Int))) := HE1.out.trans ⟨rfl, rfl, rfl, by simp, fun jj hj => heap_far 5 _ (by omega)⟩
                        have HK2 := Lib.hid k2
                        have HE2 := Lib.hid b2
                        clear k2 b2 HK1 HE1
                        generalize we.setCell ⟨p11, 5, none⟩ (.int .i64 (p5 : Int)) = wf at *
                        have q0 : wf.cell? ⟨p11, 0, none⟩ = some (.int .i64 kind) := by rw [HK2.out.cell]; rfl
                        have q1 : wf.cell? ⟨p11, 1, none⟩ = some (.string ⟨nm.toArray⟩) := by rw [HK2.out.cell]; rfl
                        have q2 : wf.cell? ⟨p11, 2, none⟩ = some (.string ⟨ds.toArray⟩) := by rw [HK2.out.cell]; rfl
                        have q3 : wf.cell? ⟨p11, 3, none⟩ = some (.string bb) := by rw [HK2.out.cell]; rfl
                        have q4 : wf.cell? ⟨p11, 4, none⟩ = some (.int .i64 (s5 : Int)) := by rw [HK2.out.cell]; rfl
                        have q5 : wf.cell? ⟨p11, 5, none⟩ = some (.int .i64 (p5 : Int)) := by rw [HK2.out.cell]; rfl
                        have zq := HK2.out.lt
                        have f4 := HK2.out.frozen 4
                        have f5 := HK2.out.frozen 5
                        have HDF := Lib.hid (HJ2.out.below (show Below wy.heap.size wy wf by rw [HP11.out]; exact HE2.out))
                        have HLF := Lib.hid (HJ1.out.trans (HE2.out.mono (by rw [← HP11.out]; exact HJ2.out.1.lo.2)))
                        have CW := crash_safe B d x s5 p5 bl wf HDF.out HJ3.out hs5T (by omega)
                        go_wp2_with (fail)
                        refine Calls.mono CW ?_
                        rintro y w5 ⟨rfl, ⟨x5, hs5x, hd5⟩, hF5⟩
                        have HS5 := Lib.hid hs5x
                        have HD5 := Lib.hid hd5
                        have HL5 := Lib.hid (HLF.out.trans hF5.1)
                        clear CW hs5x hd5 hF5 q0 q1 q2 q3 q4 q5 zq f4 f5
                        go_wp2_with (fail)
                        go_roundw
                        case rel => exact ⟨k + 1, by go_num, by omega, HL5.out, x5, HD5.out, HS5.out⟩
                        case measure => simp [intOf]; omega
                      exact AllReadyH.nil
                    exact AllReadyH.nil
                  exact AllReadyH.nil
            · have hk40' : ¬ (k : Int) < 40 := by omega
              have RD := read_named B d x sureL wy HJ2.out (by rw [HJ3.out.now]; rfl)
              have HVAL := Lib.hid (show valF x.now sureL = bl by unfold valF; rw [HJ3.out.now]; rfl)
              go_upto_region 28 with (fail)
              go_wp2_with (fail)
              refine Calls.mono RD ?_
              rintro y w8 ⟨A8, c8, rfl, hr8, hB8⟩
              rw [HVAL.out] at hr8 ⊢
              have hcv := hr8.conv
              have HL8 := Lib.hid (HJ1.out.trans (hB8.mono HJ2.out.1.lo.2))
              have HB8 := Lib.hid (HJ2.out.below hB8).1.lo.2
              have hbb : b = ⟨bl.toArray⟩ := by rw [← HBLE.out]
              rw [hbb]
              clear RD hr8 hB8
              have SW := sure_walk w8
              have HBT := Lib.hid (HB1.out.trans HL8.out)
              go_wp2_with (fail)
              refine Calls.mono SW ?_
              rintro y w9 ⟨rfl, hB9⟩
              have HR := Lib.hid (show Below B w w9 from HBT.out.trans (hB9.mono HB8.out))
              clear SW hB9
              go_wp2_with (fail)
              go_ret
              exact ⟨rfl, by rw [hB]; exact HR.out⟩
          · have hkl' : ¬ (k : Int) < (Y.length : Int) := by omega
            have RD := read_named B d x sureL wy HJ2.out (by rw [HJ3.out.now]; rfl)
            have HVAL := Lib.hid (show valF x.now sureL = bl by unfold valF; rw [HJ3.out.now]; rfl)
            go_upto_region 28 with (fail)
            go_wp2_with (fail)
            refine Calls.mono RD ?_
            rintro y w8 ⟨A8, c8, rfl, hr8, hB8⟩
            rw [HVAL.out] at hr8 ⊢
            have hcv := hr8.conv
            have HL8 := Lib.hid (HJ1.out.trans (hB8.mono HJ2.out.1.lo.2))
            have HB8 := Lib.hid (HJ2.out.below hB8).1.lo.2
            have hbb : b = ⟨bl.toArray⟩ := by rw [← HBLE.out]
            rw [hbb]
            clear RD hr8 hB8
            have SW := sure_walk w8
            have HBT := Lib.hid (HB1.out.trans HL8.out)
            go_wp2_with (fail)
            refine Calls.mono SW ?_
            rintro y w9 ⟨rfl, hB9⟩
            have HR := Lib.hid (show Below B w w9 from HBT.out.trans (hB9.mono HB8.out))
            clear SW hB9
            go_wp2_with (fail)
            go_ret
            exact ⟨rfl, by rw [hB]; exact HR.out⟩
    · have hil' : ¬ (i : Int) < (X.length : Int) := by omega
      have HD := Lib.hid HBO.out.2
      obtain ⟨cc, hcv, hrd⟩ := str_bytes b wl
      have hcv9 := hcv 9 Tryd.underlying9
      have hbc := (below_drewN (Below.refl wl.heap.size wl) 1).alloc (Nat.le_refl _) (Obj.cells (bytesRow b cc) 5 ((bytesRow b cc).size, (bytesRow b cc).size + 1))
      have CW := write_safe B d x b.data.toList _ _ (HD.out.below hbc) hrd hbz
      have HLc := Lib.hid (HBL.out.trans (hbc.mono HD.out.1.lo.2))
      clear hcv hrd hbc HBO HBL HBK
      go_upto_region 13 with (fail)
      go_wp2_with (fail)
      refine Calls.mono CW ?_
      rintro y w2 ⟨n, rfl, ⟨x2, hd2, hn2⟩, hF2⟩
      have HL2 := Lib.hid (HLc.out.trans hF2.1)
      have HD2 := Lib.hid hd2
      clear CW hd2 hF2 HLc HD hcv9
      by_cases hz : n = 0
      rotate_left
      · rw [errI_ne hz]
        clear hz hn2
        have SW := sure_walk w2
        have HBT := Lib.hid (HB1.out.trans HL2.out)
        have HLO := Lib.hid (HD2.out.1.lo.2)
        go_wp2_with (fail)
        refine Calls.mono SW ?_
        rintro y w9 ⟨rfl, hB9⟩
        have HR := Lib.hid (show Below B w w9 from HBT.out.trans (hB9.mono HLO.out))
        clear SW hB9
        go_wp2_with (fail)
        go_ret
        exact ⟨rfl, by rw [hB]; exact HR.out⟩
      have HSX := Lib.hid (show SafeX b.data.toList ⟨x2.now, x2.now, []⟩ from ⟨hn2 hz, hn2 hz, fun s hs => by cases hs⟩)
      rw [hz, errI_zero]
      clear hz hn2
      have SY := sure2 B d x2 w2 HD2.out
      go_upto_region 15 with (fail)
      go_wp2_with (fail)
      refine Calls.mono SY ?_
      rintro y w3 ⟨rfl, ⟨x3, rfl, hd3⟩, hF3⟩
      have HI2 := Lib.hid (show LoS B d w1 w3 b.data.toList from ⟨HL2.out.trans hF3.1, _, hd3, HSX.out⟩)
      clear SY hd3 hF3 HSX HD2 HL2
      generalize hbl : b.data.toList = bl at *
      have HBLE := Lib.hid hbl
      clear hbl
      go_upto_region 17 with (fail)
      go_wp2_with (fail)
      go_loopw [10, 11] (fun iv _ wy => ∃ k : Nat, iv = .int .i64 k ∧ k ≤ 40 ∧ LoS B d w1 wy bl) (fun iv _ _ => 40 - (intOf iv).toNat)
      case atStart => exact ⟨0, rfl, by omega, HI2.out⟩
      case round =>
        obtain ⟨wy, rfl⟩ : ∃ Z, Z = wr := ⟨_, rfl⟩
        obtain ⟨k, rfl, hk, hJ⟩ := hrel
        obtain ⟨hJ1, x, hJ2, hJ3⟩ := hJ
        have HJ1 := Lib.hid hJ1
        have HJ2 := Lib.hid hJ2
        have HJ3 := Lib.hid hJ3
        clear hJ1 hJ2 hJ3 HI2
        have k0 : (0 : Int) ≤ k := by omega
        by_cases hkl : k < Y.length
        · have hkl' : (k : Int) < (Y.length : Int) := by omega
          by_cases hk40 : k < 40
          · have hk40' : (k : Int) < 40 := by omega
            obtain ⟨g2, o2, rfl, ha0⟩ := HAY.out.at_ hkl
            have hgB2 : g2 < B := by
              rcases HAY.out with ⟨A, c, e, _, h0⟩ | ⟨g', o', c, e, hg, _⟩
              · rw [h0] at hkl; simp at hkl
              · cases e; exact hg
            have ha := ha0.below HJ1.out hgB2
            generalize Y.getD k ac0 = a at *
            obtain ⟨kind, name, dst, bb, st, pt⟩ := a
            obtain ⟨nm, rfl⟩ : ∃ nm : List UInt8, name = ⟨nm.toArray⟩ := ⟨name.data.toList, rfl⟩
            obtain ⟨ds, rfl⟩ : ∃ ds : List UInt8, dst = ⟨ds.toArray⟩ := ⟨dst.data.toList, rfl⟩
            obtain ⟨x0, x1, x2', x3', x4, x5⟩ := ha
            dsimp only at x0 x1 x2' x3' x4 x5
            have zg := World.block_lt_of_cell? _ _ x0
            clear ha0
            by_cases hab : 3000 < bb.size
            · have hab' : (3000 : Int) < (bb.size : Int) := by omega
              go_wp2_with (fail)
              go_roundw
              case rel => exact ⟨k + 1, by go_num, by omega, HJ1.out, x, HJ2.out, HJ3.out⟩
              case measure => simp [intOf]; omega
            have hab' : ¬ (3000 : Int) < (bb.size : Int) := by omega
            cases hnm : (nm == [115, 117, 114, 101]) with
            | true =>
              go_wp2_with (fail)
              go_roundw
              case rel => exact ⟨k + 1, by go_num, by omega, HJ1.out, x, HJ2.out, HJ3.out⟩
              case measure => simp [intOf]; omega
            | false =>
              cases hds : (ds == [115, 117, 114, 101]) with
              | true =>
                go_wp2_with (fail)
                go_roundw
                case rel => exact ⟨k + 1, by go_num, by omega, HJ1.out, x, HJ2.out, HJ3.out⟩
                case measure => simp [intOf]; omega
              | false =>
                go_upto_region 22 with (fail)
                have HNM := Lib.hid (show nm ≠ sureL from fun e => by rw [e] at hnm; exact absurd hnm (by decide))
                have HDS := Lib.hid (show ds ≠ sureL from fun e => by rw [e] at hds; exact absurd hds (by decide))
                clear x0 x1 x2' x3' x4 x5 zg hab' hnm hds
                have hal := (Below.refl wy.heap.size wy).alloc (Nat.le_refl _) (Obj.cells #[.int .i64 kind, .string ⟨nm.toArray⟩, .string ⟨ds.toArray⟩, .string bb, .int .i64 st, .int .i64 pt] 43)
                have hb := Blk.new wy 43 #[.int .i64 kind, .string ⟨nm.toArray⟩, .string ⟨ds.toArray⟩, .string bb, .int .i64 st, .int .i64 pt]
                have HKB := Lib.hid hb
                have HAL := Lib.hid hal
                clear hb hal
                generalize wy.alloc (Obj.cells #[.int .i64 kind, .string ⟨nm.toArray⟩, .string ⟨ds.toArray⟩, .string bb, .int .i64 st, .int .i64 pt] 43) = wb at *
                generalize hp11 : wy.heap.size = p11 at *
                have HP11 := Lib.hid hp11
                clear hp11
                have q0 : wb.cell? ⟨p11, 0, none⟩ = some (.int .i64 kind) := by rw [HKB.out.cell]; rfl
                have q1 : wb.cell? ⟨p11, 1, none⟩ = some (.string ⟨nm.toArray⟩) := by rw [HKB.out.cell]; rfl
                have q2 : wb.cell? ⟨p11, 2, none⟩ = some (.string ⟨ds.toArray⟩) := by rw [HKB.out.cell]; rfl
                have q3 : wb.cell? ⟨p11, 3, none⟩ = some (.string bb) := by rw [HKB.out.cell]; rfl
                have q4 : wb.cell? ⟨p11, 4, none⟩ = some (.int .i64 st) := by rw [HKB.out.cell]; rfl
                have q5 : wb.cell? ⟨p11, 5, none⟩ = some (.int .i64 pt) := by rw [HKB.out.cell]; rfl
                have zq := HKB.out.lt
                have f4 := HKB.out.frozen 4
                have f5 := HKB.out.frozen 5
                have hmod : ((IntKind.u64.wrap kind).tmod 6) = acM (⟨kind, ⟨nm.toArray⟩, ⟨ds.toArray⟩, bb, st, pt⟩ : Ac) := rfl
                have hm := acM_bd (⟨kind, ⟨nm.toArray⟩, ⟨ds.toArray⟩, bb, st, pt⟩ : Ac)
                have hmw : IntKind.i64.wrap (acM (⟨kind, ⟨nm.toArray⟩, ⟨ds.toArray⟩, bb, st, pt⟩ : Ac)) = acM (⟨kind, ⟨nm.toArray⟩, ⟨ds.toArray⟩, bb, st, pt⟩ : Ac) := by rw [IntKind.wrap_i64]; omega
                generalize acM (⟨kind, ⟨nm.toArray⟩, ⟨ds.toArray⟩, bb, st, pt⟩ : Ac) = m at *
                have HDB := Lib.hid (HJ2.out.below (show Below wy.heap.size wy wb by rw [HP11.out]; exact HAL.out))
                have HLB := Lib.hid (HJ1.out.trans (HAL.out.mono (by rw [← HP11.out]; exact HJ2.out.1.lo.2)))
                by_cases hm5 : m = 5
                rotate_left
                · have CW := act_walk B d (⟨kind, ⟨nm.toArray⟩, ⟨ds.toArray⟩, bb, st, pt⟩ : Ac) (by show bb.size ≤ 1000000; omega) x wb HDB.out
                  go_upto_region 27 with (fail)
                  go_wp2_with (fail)
                  refine Calls.mono CW ?_
                  rintro y w5 ⟨rfl, ⟨x5, hd5, hx5⟩, hF5⟩
                  have HS5 := Lib.hid (safe_do hd5 HJ3.out HNM.out HDS.out)
                  have HD5 := Lib.hid hx5
                  have HL5 := Lib.hid (HLB.out.trans hF5.1)
                  clear CW hd5 hx5 hF5 q0 q1 q2 q3 q4 q5 zq f4 f5
                  go_wp2_with (fail)
                  go_roundw
                  case rel => exact ⟨k + 1, by go_num, by omega, HL5.out, x5, HD5.out, HS5.out⟩
                  case measure => simp [intOf]; omega
                subst hm5
                have hT4 := HDB.out.1.st.1
                obtain ⟨s5, hs5⟩ : ∃ s5 : Nat, (IntKind.u64.wrap st).tmod ((x.T.length : Int) + 1) = (s5 : Int) := ⟨_, (Int.toNat_of_nonneg (u64m_bdT st x.T.length).1).symm⟩
                have hs5T : s5 ≤ x.T.length := by have := (u64m_bdT st x.T.length).2; omega
                have hs5w : IntKind.i64.wrap (s5 : Int) = (s5 : Int) := by rw [IntKind.wrap_i64]; omega
                obtain ⟨p5, hp5⟩ : ∃ p5 : Nat, (IntKind.u64.wrap pt).tmod 5 = (p5 : Int) := ⟨_, (Int.toNat_of_nonneg (u64m_bd pt 5 (by omega)).1).symm⟩
                have hp55 : p5 < 5 := by have := (u64m_bd pt 5 (by omega)).2; omega
                have hp5w : IntKind.i64.wrap (p5 : Int) = (p5 : Int) := by rw [IntKind.wrap_i64]; omega
                have s50 : (0 : Int) ≤ s5 := by omega
                have hwi : IntKind.i64.wrap ((x.T.length : Int) + 1) = (x.T.length : Int) + 1 := by rw [IntKind.wrap_i64]; omega
                have hwu : IntKind.u64.wrap ((x.T.length : Int) + 1) = (x.T.length : Int) + 1 := by rw [u64w]; omega
                have hne0 : ¬ ((x.T.length : Int) + 1 = 0) := by omega
                have p50 : (0 : Int) ≤ p5 := by omega
                go_upto_region 23 with (fail)
                clear hmod hmw hm
                clear q0 q1 q2 q3 q4 q5 zq f4 f5
                refine wp_region_noPanic ?_
                refine wp_region_held_drew (S := (fun w' => p11 < w'.heap.size)) (by kernel_rfl) ?_ (fun hHeld => ?_)
                · exact HKB.out.lt
                have bd : Below wb.heap.size wb wb.drew := below_drewN (Below.refl wb.heap.size wb) 1
                have HKd := Lib.hid (HKB.out.below bd)
                have HDd := Lib.hid (HDB.out.below bd)
                have HLd := Lib.hid (HLB.out.trans (bd.mono HDB.out.1.lo.2))
                have HAd := Lib.hid (show Below p11 wy wb.drew from HAL.out.trans (bd.mono (Nat.le_of_lt HKB.out.lt)))
                clear bd
                generalize wb.drew = wd at *
                refine reg_take (i := 0) (oi := _) (v := ?_) rfl (by kernel_rfl) (by kernel_rfl) (by kernel_rfl) (fun _ _ _ h => h) (by rfl) ?_ (by assumption) ?_
                rotate_left
                · intro w hSw; (try dsimp only at hSw); have zq := hSw; go_simp; try with_reducible rfl
                (try simp only [Act.put, List.setIfInBounds_toArray, List.set_cons_zero, List.set_cons_succ])
                refine reg_take (i := 3) (oi := _) (v := ?_) rfl (by kernel_rfl) (by kernel_rfl) (by kernel_rfl) (fun _ _ _ h => h) (by rfl) ?_ (by assumption) ?_
                rotate_left
                · intro w hSw; (try dsimp only at hSw); have zq := hSw; go_simp; try with_reducible rfl
                (try simp only [Act.put, List.setIfInBounds_toArray, List.set_cons_zero, List.set_cons_succ])
                refine wpAnyH_ready (rs := [1, 4]) (by kernel_rfl) (by simp) ?_
                refine reg_each (o := _) rfl (fun K hK => ?_) ?_
                · skip
                  have q4 : wd.cell? ⟨p11, 4, none⟩ = some (.int .i64 st) := by rw [HKd.out.cell]; rfl
                  have zq := HKd.out.lt
                  go_simp
                  refine hK.out _ _ ?_ (fun hHeld2 => ?_)
                  · exact hHeld
                  clear hK K hHeld
                  have hHeld := hHeld2
                  clear hHeld2
                  (try simp only [Act.put, List.setIfInBounds_toArray, List.set_cons_zero, List.set_cons_succ])
                  clear q4 zq
                  refine reg_take (i := 2) (oi := _) (v := ?_) rfl (by kernel_rfl) (by kernel_rfl) (by kernel_rfl) (fun _ _ _ h => h) (by rfl) ?_ (by assumption) ?_
                  rotate_left
                  · intro w hSw; (try dsimp only at hSw); have zq := hSw; go_simp; try with_reducible rfl
                  (try simp only [Act.put, List.setIfInBounds_toArray, List.set_cons_zero, List.set_cons_succ])
                  refine wpAnyH_ready (rs := [4]) (by kernel_rfl) (by simp) ?_
                  refine reg_each (o := _) rfl (fun K hK => ?_) ?_
                  · skip
                    go_simp
                    refine (pending_walk B d x.now x.sure x.T _ HDd.out.1).mono ?_
                    rintro r wg ⟨rfl, rfl⟩
                    have HHE := Lib.hid hHeld
                    go_wp2_with (fail)
                    refine hK.out _ _ ?_ (fun hHeld2 => ?_)
                    · exact HHE.out
                    clear hK K hHeld
                    have hHeld := hHeld2
                    clear hHeld2
                    (try simp only [Act.put, List.setIfInBounds_toArray, List.set_cons_zero, List.set_cons_succ])
                    clear HHE
                    refine reg_take (i := 5) (oi := _) (v := ?_) rfl (by kernel_rfl) (by kernel_rfl) (by kernel_rfl) (fun _ _ _ h => h) (by rfl) ?_ (by assumption) ?_
                    rotate_left
                    · intro w hSw; (try dsimp only at hSw); have zq := hSw; go_simp; try with_reducible rfl
                    (try simp only [Act.put, List.setIfInBounds_toArray, List.set_cons_zero, List.set_cons_succ])
                    refine reg_take (i := 6) (oi := _) (v := ?_) rfl (by kernel_rfl) (by kernel_rfl) (by kernel_rfl) (fun _ _ _ h => h) (by rfl) ?_ (by assumption) ?_
                    rotate_left
                    · intro w hSw; (try dsimp only at hSw); have zq := hSw; go_simp; try with_reducible rfl
                    (try simp only [Act.put, List.setIfInBounds_toArray, List.set_cons_zero, List.set_cons_succ])
                    refine reg_take (i := 7) (oi := _) (v := ?_) rfl (by kernel_rfl) (by kernel_rfl) (by kernel_rfl) (fun _ _ _ h => h) (by rfl) ?_ (by assumption) ?_
                    rotate_left
                    · intro w hSw; (try dsimp only at hSw); have zq := hSw; go_simp; try with_reducible rfl
                    (try simp only [Act.put, List.setIfInBounds_toArray, List.set_cons_zero, List.set_cons_succ])
                    refine reg_take (i := 8) (oi := _) (v := ?_) rfl (by kernel_rfl) (by kernel_rfl) (by kernel_rfl) (fun _ _ _ h => h) (by rfl) ?_ (by assumption) ?_
                    rotate_left
                    · intro w hSw; (try dsimp only at hSw); have zq := hSw; go_simp; try with_reducible rfl
                    (try simp only [Act.put, List.setIfInBounds_toArray, List.set_cons_zero, List.set_cons_succ])
                    refine reg_take (i := 9) (oi := _) (v := ?_) rfl (by kernel_rfl) (by kernel_rfl) (by kernel_rfl) (fun _ _ _ h => h) (by rfl) ?_ (by assumption) ?_
                    rotate_left
                    · intro w hSw; (try dsimp only at hSw); have zq := hSw; go_simp; try with_reducible rfl
                    (try simp only [Act.put, List.setIfInBounds_toArray, List.set_cons_zero, List.set_cons_succ])
                    refine wpAnyH_ready (rs := [10]) (by kernel_rfl) (by simp) ?_
                    refine reg_each (o := _) rfl (fun K hK => ?_) ?_
                    · skip
                      have q4 : wg.cell? ⟨p11, 4, none⟩ = some (.int .i64 st) := by rw [HKd.out.cell]; rfl
                      have zq := HKd.out.lt
                      have f4 := HKd.out.frozen 4
                      go_simp
                      refine hK.out _ _ ?_ (fun hHeld2 => ?_)
                      · exact (by simpa using HKd.out.lt)
                      clear hK K hHeld
                      have hHeld := hHeld2
                      clear hHeld2
                      (try simp only [Act.put, List.setIfInBounds_toArray, List.set_cons_zero, List.set_cons_succ])
                      refine wpAnyH_done (by kernel_rfl) ?_ _
                      refine NoPanic.normal ?_
                      clear hHeld q4 zq f4
                      have k1 := HKd.out.put 4 (.int .i64 (s5 : Int)) rfl
                      have b1 : Below p11 wy (wg.setCell ⟨p11, 4, none⟩ (.int .i64 (s5 : Int))) := HAd.out.trans ⟨rfl, rfl, rfl, by simp, fun jj hj => heap_far 4 _ (by omega)⟩
                      have HK1 := Lib.hid k1
                      have HE1 := Lib.hid b1
                      clear k1 b1 HKd HDd HLd HAd
                      generalize wg.setCell ⟨p11, 4, none⟩ (.int .i64 (s5 : Int)) = we at *
                      have q0 : we.cell? ⟨p11, 0, none⟩ = some (.int .i64 kind) := by rw [HK1.out.cell]; rfl
                      have q1 : we.cell? ⟨p11, 1, none⟩ = some (.string ⟨nm.toArray⟩) := by rw [HK1.out.cell]; rfl
                      have q2 : we.cell? ⟨p11, 2, none⟩ = some (.string ⟨ds.toArray⟩) := by rw [HK1.out.cell]; rfl
                      have q3 : we.cell? ⟨p11, 3, none⟩ = some (.string bb) := by rw [HK1.out.cell]; rfl
                      have q4 : we.cell? ⟨p11, 4, none⟩ = some (.int .i64 (s5 : Int)) := by rw [HK1.out.cell]; rfl
                      have q5 : we.cell? ⟨p11, 5, none⟩ = some (.int .i64 pt) := by rw [HK1.out.cell]; rfl
                      have zq := HK1.out.lt
                      have f4 := HK1.out.frozen 4
                      have f5 := HK1.out.frozen 5
                      go_upto_region 25 with (fail)
                      clear q0 q1 q2 q3 q4 q5 zq f4 f5
                      have k2 := HK1.out.put 5 (.int .i64 (p5 : Int)) rfl
                      have b2 : Below p11 wy (we.setCell ⟨p11, 5, none⟩ (.int .i64 (p5 : Int))) := HE1.out.trans ⟨rfl, rfl, rfl, by simp, fun jj hj => heap_far 5 _ (by omega)⟩
                      have HK2 := Lib.hid k2
                      have HE2 := Lib.hid b2
                      clear k2 b2 HK1 HE1
                      generalize we.setCell ⟨p11, 5, none⟩ (.int .i64 (p5 : Int)) = wf at *
                      have q0 : wf.cell? ⟨p11, 0, none⟩ = some (.int .i64 kind) := by rw [HK2.out.cell]; rfl
                      have q1 : wf.cell? ⟨p11, 1, none⟩ = some (.string ⟨nm.toArray⟩) := by rw [HK2.out.cell]; rfl
                      have q2 : wf.cell? ⟨p11, 2, none⟩ = some (.string ⟨ds.toArray⟩) := by rw [HK2.out.cell]; rfl
                      have q3 : wf.cell? ⟨p11, 3, none⟩ = some (.string bb) := by rw [HK2.out.cell]; rfl
                      have q4 : wf.cell? ⟨p11, 4, none⟩ = some (.int .i64 (s5 : Int)) := by rw [HK2.out.cell]; rfl
                      have q5 : wf.cell? ⟨p11, 5, none⟩ = some (.int .i64 (p5 : Int)) := by rw [HK2.out.cell]; rfl
                      have zq := HK2.out.lt
                      have f4 := HK2.out.frozen 4
                      have f5 := HK2.out.frozen 5
                      have HDF := Lib.hid (HJ2.out.below (show Below wy.heap.size wy wf by rw [HP11.out]; exact HE2.out))
                      have HLF := Lib.hid (HJ1.out.trans (HE2.out.mono (by rw [← HP11.out]; exact HJ2.out.1.lo.2)))
                      have CW := crash_safe B d x s5 p5 bl wf HDF.out HJ3.out hs5T (by omega)
                      go_wp2_with (fail)
                      refine Calls.mono CW ?_
                      rintro y w5 ⟨rfl, ⟨x5, hs5x, hd5⟩, hF5⟩
                      have HS5 := Lib.hid hs5x
                      have HD5 := Lib.hid hd5
                      have HL5 := Lib.hid (HLF.out.trans hF5.1)
                      clear CW hs5x hd5 hF5 q0 q1 q2 q3 q4 q5 zq f4 f5
                      go_wp2_with (fail)
                      go_roundw
                      case rel => exact ⟨k + 1, by go_num, by omega, HL5.out, x5, HD5.out, HS5.out⟩
                      case measure => simp [intOf]; omega
                    exact AllReadyH.nil
                  exact AllReadyH.nil
                refine reg_each (o := _) rfl (fun K hK => ?_) ?_
                · skip
                  go_simp
                  refine (pending_walk B d x.now x.sure x.T _ HDd.out.1).mono ?_
                  rintro r wg ⟨rfl, rfl⟩
                  have HHE := Lib.hid hHeld
                  go_wp2_with (fail)
                  refine hK.out _ _ ?_ (fun hHeld2 => ?_)
                  · exact HHE.out
                  clear hK K hHeld
                  have hHeld := hHeld2
                  clear hHeld2
                  (try simp only [Act.put, List.setIfInBounds_toArray, List.set_cons_zero, List.set_cons_succ])
                  clear HHE
                  refine reg_take (i := 5) (oi := _) (v := ?_) rfl (by kernel_rfl) (by kernel_rfl) (by kernel_rfl) (fun _ _ _ h => h) (by rfl) ?_ (by assumption) ?_
                  rotate_left
                  · intro w hSw; (try dsimp only at hSw); have zq := hSw; go_simp; try with_reducible rfl
                  (try simp only [Act.put, List.setIfInBounds_toArray, List.set_cons_zero, List.set_cons_succ])
                  refine reg_take (i := 6) (oi := _) (v := ?_) rfl (by kernel_rfl) (by kernel_rfl) (by kernel_rfl) (fun _ _ _ h => h) (by rfl) ?_ (by assumption) ?_
                  rotate_left
                  · intro w hSw; (try dsimp only at hSw); have zq := hSw; go_simp; try with_reducible rfl
                  (try simp only [Act.put, List.setIfInBounds_toArray, List.set_cons_zero, List.set_cons_succ])
                  refine wpAnyH_ready (rs := [1]) (by kernel_rfl) (by simp) ?_
                  refine reg_each (o := _) rfl (fun K hK => ?_) ?_
                  · skip
                    have q4 : wg.cell? ⟨p11, 4, none⟩ = some (.int .i64 st) := by rw [HKd.out.cell]; rfl
                    have zq := HKd.out.lt
                    go_simp
                    refine hK.out _ _ ?_ (fun hHeld2 => ?_)
                    · exact hHeld
                    clear hK K hHeld
                    have hHeld := hHeld2
                    clear hHeld2
                    (try simp only [Act.put, List.setIfInBounds_toArray, List.set_cons_zero, List.set_cons_succ])
                    clear q4 zq
                    refine reg_take (i := 2) (oi := _) (v := ?_) rfl (by kernel_rfl) (by kernel_rfl) (by kernel_rfl) (fun _ _ _ h => h) (by rfl) ?_ (by assumption) ?_
                    rotate_left
                    · intro w hSw; (try dsimp only at hSw); have zq := hSw; go_simp; try with_reducible rfl
                    (try simp only [Act.put, List.setIfInBounds_toArray, List.set_cons_zero, List.set_cons_succ])
                    refine reg_take (i := 7) (oi := _) (v := ?_) rfl (by kernel_rfl) (by kernel_rfl) (by kernel_rfl) (fun _ _ _ h => h) (by rfl) ?_ (by assumption) ?_
                    rotate_left
                    · intro w hSw; (try dsimp only at hSw); have zq := hSw; go_simp; try with_reducible rfl
                    (try simp only [Act.put, List.setIfInBounds_toArray, List.set_cons_zero, List.set_cons_succ])
                    refine reg_take (i := 8) (oi := _) (v := ?_) rfl (by kernel_rfl) (by kernel_rfl) (by kernel_rfl) (fun _ _ _ h => h) (by rfl) ?_ (by assumption) ?_
                    rotate_left
                    · intro w hSw; (try dsimp only at hSw); have zq := hSw; go_simp; try with_reducible rfl
                    (try simp only [Act.put, List.setIfInBounds_toArray, List.set_cons_zero, List.set_cons_succ])
                    refine reg_take (i := 9) (oi := _) (v := ?_) rfl (by kernel_rfl) (by kernel_rfl) (by kernel_rfl) (fun _ _ _ h => h) (by rfl) ?_ (by assumption) ?_
                    rotate_left
                    · intro w hSw; (try dsimp only at hSw); have zq := hSw; go_simp; try with_reducible rfl
                    (try simp only [Act.put, List.setIfInBounds_toArray, List.set_cons_zero, List.set_cons_succ])
                    refine wpAnyH_ready (rs := [10]) (by kernel_rfl) (by simp) ?_
                    refine reg_each (o := _) rfl (fun K hK => ?_) ?_
                    · skip
                      have q4 : wg.cell? ⟨p11, 4, none⟩ = some (.int .i64 st) := by rw [HKd.out.cell]; rfl
                      have zq := HKd.out.lt
                      have f4 := HKd.out.frozen 4
                      go_simp
                      refine hK.out _ _ ?_ (fun hHeld2 => ?_)
                      · exact (by simpa using HKd.out.lt)
                      clear hK K hHeld
                      have hHeld := hHeld2
                      clear hHeld2
                      (try simp only [Act.put, List.setIfInBounds_toArray, List.set_cons_zero, List.set_cons_succ])
                      refine wpAnyH_done (by kernel_rfl) ?_ _
                      refine NoPanic.normal ?_
                      clear hHeld q4 zq f4
                      have k1 := HKd.out.put 4 (.int .i64 (s5 : Int)) rfl
                      have b1 : Below p11 wy (wg.setCell ⟨p11, 4, none⟩ (.int .i64 (s5 : Int))) := HAd.out.trans ⟨rfl, rfl, rfl, by simp, fun jj hj => heap_far 4 _ (by omega)⟩
                      have HK1 := Lib.hid k1
                      have HE1 := Lib.hid b1
                      clear k1 b1 HKd HDd HLd HAd
                      generalize wg.setCell ⟨p11, 4, none⟩ (.int .i64 (s5 : Int)) = we at *
                      have q0 : we.cell? ⟨p11, 0, none⟩ = some (.int .i64 kind) := by rw [HK1.out.cell]; rfl
                      have q1 : we.cell? ⟨p11, 1, none⟩ = some (.string ⟨nm.toArray⟩) := by rw [HK1.out.cell]; rfl
                      have q2 : we.cell? ⟨p11, 2, none⟩ = some (.string ⟨ds.toArray⟩) := by rw [HK1.out.cell]; rfl
                      have q3 : we.cell? ⟨p11, 3, none⟩ = some (.string bb) := by rw [HK1.out.cell]; rfl
                      have q4 : we.cell? ⟨p11, 4, none⟩ = some (.int .i64 (s5 : Int)) := by rw [HK1.out.cell]; rfl
                      have q5 : we.cell? ⟨p11, 5, none⟩ = some (.int .i64 pt) := by rw [HK1.out.cell]; rfl
                      have zq := HK1.out.lt
                      have f4 := HK1.out.frozen 4
                      have f5 := HK1.out.frozen 5
                      go_upto_region 25 with (fail)
                      clear q0 q1 q2 q3 q4 q5 zq f4 f5
                      have k2 := HK1.out.put 5 (.int .i64 (p5 : Int)) rfl
                      have b2 : Below p11 wy (we.setCell ⟨p11, 5, none⟩ (.int .i64 (p5 : Int))) := HE1.out.trans ⟨rfl, rfl, rfl, by simp, fun jj hj => heap_far 5 _ (by omega)⟩
                      have HK2 := Lib.hid k2
                      have HE2 := Lib.hid b2
                      clear k2 b2 HK1 HE1
                      generalize we.setCell ⟨p11, 5, none⟩ (.int .i64 (p5 : Int)) = wf at *
                      have q0 : wf.cell? ⟨p11, 0, none⟩ = some (.int .i64 kind) := by rw [HK2.out.cell]; rfl
                      have q1 : wf.cell? ⟨p11, 1, none⟩ = some (.string ⟨nm.toArray⟩) := by rw [HK2.out.cell]; rfl
                      have q2 : wf.cell? ⟨p11, 2, none⟩ = some (.string ⟨ds.toArray⟩) := by rw [HK2.out.cell]; rfl
                      have q3 : wf.cell? ⟨p11, 3, none⟩ = some (.string bb) := by rw [HK2.out.cell]; rfl
                      have q4 : wf.cell? ⟨p11, 4, none⟩ = some (.int .i64 (s5 : Int)) := by rw [HK2.out.cell]; rfl
                      have q5 : wf.cell? ⟨p11, 5, none⟩ = some (.int .i64 (p5 : Int)) := by rw [HK2.out.cell]; rfl
                      have zq := HK2.out.lt
                      have f4 := HK2.out.frozen 4
                      have f5 := HK2.out.frozen 5
                      have HDF := Lib.hid (HJ2.out.below (show Below wy.heap.size wy wf by rw [HP11.out]; exact HE2.out))
                      have HLF := Lib.hid (HJ1.out.trans (HE2.out.mono (by rw [← HP11.out]; exact HJ2.out.1.lo.2)))
                      have CW := crash_safe B d x s5 p5 bl wf HDF.out HJ3.out hs5T (by omega)
                      go_wp2_with (fail)
                      refine Calls.mono CW ?_
                      rintro y w5 ⟨rfl, ⟨x5, hs5x, hd5⟩, hF5⟩
                      have HS5 := Lib.hid hs5x
                      have HD5 := Lib.hid hd5
                      have HL5 := Lib.hid (HLF.out.trans hF5.1)
                      clear CW hs5x hd5 hF5 q0 q1 q2 q3 q4 q5 zq f4 f5
                      go_wp2_with (fail)
                      go_roundw
                      case rel => exact ⟨k + 1, by go_num, by omega, HL5.out, x5, HD5.out, HS5.out⟩
                      case measure => simp [intOf]; omega
                    exact AllReadyH.nil
                  exact AllReadyH.nil
                exact AllReadyH.nil
          · have hk40' : ¬ (k : Int) < 40 := by omega
            have RD := read_named B d x sureL wy HJ2.out (by rw [HJ3.out.now]; rfl)
            have HVAL := Lib.hid (show valF x.now sureL = bl by unfold valF; rw [HJ3.out.now]; rfl)
            go_upto_region 28 with (fail)
            go_wp2_with (fail)
            refine Calls.mono RD ?_
            rintro y w8 ⟨A8, c8, rfl, hr8, hB8⟩
            rw [HVAL.out] at hr8 ⊢
            have hcv := hr8.conv
            have HL8 := Lib.hid (HJ1.out.trans (hB8.mono HJ2.out.1.lo.2))
            have HB8 := Lib.hid (HJ2.out.below hB8).1.lo.2
            have hbb : b = ⟨bl.toArray⟩ := by rw [← HBLE.out]
            rw [hbb]
            clear RD hr8 hB8
            have SW := sure_walk w8
            have HBT := Lib.hid (HB1.out.trans HL8.out)
            go_wp2_with (fail)
            refine Calls.mono SW ?_
            rintro y w9 ⟨rfl, hB9⟩
            have HR := Lib.hid (show Below B w w9 from HBT.out.trans (hB9.mono HB8.out))
            clear SW hB9
            go_wp2_with (fail)
            go_ret
            exact ⟨rfl, by rw [hB]; exact HR.out⟩
        · have hkl' : ¬ (k : Int) < (Y.length : Int) := by omega
          have RD := read_named B d x sureL wy HJ2.out (by rw [HJ3.out.now]; rfl)
          have HVAL := Lib.hid (show valF x.now sureL = bl by unfold valF; rw [HJ3.out.now]; rfl)
          go_upto_region 28 with (fail)
          go_wp2_with (fail)
          refine Calls.mono RD ?_
          rintro y w8 ⟨A8, c8, rfl, hr8, hB8⟩
          rw [HVAL.out] at hr8 ⊢
          have hcv := hr8.conv
          have HL8 := Lib.hid (HJ1.out.trans (hB8.mono HJ2.out.1.lo.2))
          have HB8 := Lib.hid (HJ2.out.below hB8).1.lo.2
          have hbb : b = ⟨bl.toArray⟩ := by rw [← HBLE.out]
          rw [hbb]
          clear RD hr8 hB8
          have SW := sure_walk w8
          have HBT := Lib.hid (HB1.out.trans HL8.out)
          go_wp2_with (fail)
          refine Calls.mono SW ?_
          rintro y w9 ⟨rfl, hB9⟩
          have HR := Lib.hid (show Below B w w9 from HBT.out.trans (hB9.mono HB8.out))
          clear SW hB9
          go_wp2_with (fail)
          go_ret
          exact ⟨rfl, by rw [hB]; exact HR.out⟩
end Go.Proofs.YtgocmfjijoibkaaDoor
