/- ReachChain, walked. -/
import Derived.Test.YtbnnbhblfclomaaA0
namespace Go.Proofs.Ytbnnbhblfclomaa
open Go.RowKit
set_option linter.unusedSimpArgs false
set_option linter.unusedVariables false
theorem row_kept {w w' : World} {B n : Nat} {t : TypeId} {sz : Nat} {v : Value} {xs : List Value} {row : Option Nat} (h : w.ownsRow B t sz v n xs) (hg : w.grownBy w' row) (hne : ∀ g, v.ownBlock = some g → row ≠ some g) : w'.ownsRow B t sz v n xs := by
  refine ⟨h.1, h.2.imp id ?_⟩
  rintro ⟨g, cap, cur, rfl, hB, hb, r⟩
  refine ⟨g, cap, cur, rfl, hB, ?_, r⟩
  rw [hg.block g (Array.getElem?_eq_some_iff.1 hb).1 (fun e => hne g rfl e.symm)]
  exact hb
def chP : Nat → List Int
  | 0 => []
  | j + 1 => [(j : Int)]
def chL (k : Nat) : List (List Int) := (List.range k).map chP
def chF (k a : Nat) : List Bool := (List.range k).map (fun i => decide (a ≤ i))
theorem chL_len (k : Nat) : (chL k).length = k := by simp [chL]
theorem chF_len (k a : Nat) : (chF k a).length = k := by simp [chF]
theorem par_chL {k i : Nat} (h : i < k) : Par (chL k) i = chP i := by simp [Par, chL, List.getD_eq_getElem?_getD, h]
theorem fl_chF {k a i : Nat} (h : i < k) : fl (chF k a) i = decide (a ≤ i) := by simp [fl, chF, List.getD_eq_getElem?_getD, h]
theorem ch_ok (k : Nat) : Acyc (EW (chL k)) ∧ Ranged (chL k) := ew_one fun i hi p hp => by
  rw [chL_len] at hi
  rw [par_chL hi] at hp
  cases i with
  | zero => cases hp
  | succ j => cases List.mem_singleton.1 hp; omega
theorem st_ch {k a i : Nat} (h : i < k) : stI (chL k) (chF k a) i = if i < a then 0 else if i = a then 2 else 3 := by
  unfold stI
  rw [fl_chF h, par_chL h]
  by_cases h1 : i < a
  · rw [if_pos h1, decide_eq_false (by omega)]; rfl
  · rw [if_neg h1, decide_eq_true (by omega), if_pos rfl]
    cases i with
    | zero =>
      have : a = 0 := by omega
      subst this; rfl
    | succ j =>
      have hx : (chP (j + 1)).any (fun p => !fl (chF k a) p.toNat) = decide (j < a) := by
        show (!fl (chF k a) ((j : Int)).toNat || false) = _
        rw [Int.toNat_natCast, fl_chF (by omega), Bool.or_false]
        by_cases h2 : j < a
        · rw [decide_eq_true h2, decide_eq_false (by omega)]; rfl
        · rw [decide_eq_false h2, decide_eq_true (by omega)]; rfl
      rw [hx]
      by_cases h2 : j + 1 = a
      · rw [if_pos h2, if_pos (.inr (decide_eq_true (by omega)))]
      · rw [if_neg h2, if_neg]
        rintro (h3 | h3)
        · cases h3
        · have := of_decide_eq_true h3; omega
theorem chF_snoc (i a : Nat) : chF (i + 1) a = chF i a ++ [decide (a ≤ i)] := by unfold chF; rw [List.range_succ, List.map_append]; rfl
theorem cellsB_snoc (l : List Bool) (b : Bool) : cellsB (l ++ [b]) = cellsB l ++ [.bool b] := by simp [cellsB]
theorem info26 : (Try.prog.info? 26).map (fun i => (i.zero, i.size, i.bytes)) = some (some (.slice none 0 0), 1, 24) := by kernel_rfl
/-- The slices of parents, so far. -/
def VsAt (w : World) (u f : Option Nat) (i : Nat) (vs : List Value) : Prop := vs.length = i ∧ ∀ j, j < i → ∃ A c, vs[j]? = some (.slice A (chP j).length c) ∧ ((j = 0 ∧ A = none ∧ c = 0) ∨ ∃ g, A = some ⟨g, 0, none⟩ ∧ w.cell? ⟨g, 0, none⟩ = some (.int .i64 ((j : Int) - 1)) ∧ u ≠ some g ∧ f ≠ some g)
theorem VsAt.move {w w' : World} {u u' f f' : Option Nat} {i : Nat} {vs : List Value} {row : Option Nat} (h : VsAt w u f i vs) (hg : w.grownBy w' row) (hr : row = u ∨ row = f ∨ row = none) (hu : u' = u ∨ ∃ q, w.heap.size ≤ q ∧ u' = some q) (hf : f' = f ∨ ∃ q, w.heap.size ≤ q ∧ f' = some q) : VsAt w' u' f' i vs := by
  refine ⟨h.1, fun j hj => ?_⟩
  obtain ⟨A, c, e, h2⟩ := h.2 j hj
  refine ⟨A, c, e, h2.imp id ?_⟩
  rintro ⟨g, rfl, hc, hug, hfg⟩
  have hlt : g < w.heap.size := World.block_lt_of_cell? _ _ hc
  refine ⟨g, rfl, ?_, ?_, ?_⟩
  · rw [← hc]
    refine World.cell?_of_block (a := ⟨g, 0, none⟩) (hg.block g hlt ?_)
    rcases hr with rfl | rfl | rfl
    · exact fun e => hug e.symm
    · exact fun e => hfg e.symm
    · intro e; cases e
  · rcases hu with rfl | ⟨q, hq, rfl⟩
    · exact hug
    · intro e; cases e; omega
  · rcases hf with rfl | ⟨q, hq, rfl⟩
    · exact hfg
    · intro e; cases e; omega
theorem grown_al (w : World) (o : Obj) : w.grownBy (w.alloc o) none := grown_alloc (World.grownBy.refl w none) o
set_option maxRecDepth 100000 in
set_option maxHeartbeats 16000000 in
theorem reachChain_walk (a0 a1 : Int) (w : World) : Calls Try.prog 4 #[.int .i64 a0, .int .i64 a1] w fun y w' => y = .returned (.bool true) ∧ Below w.heap.size w w' := by
  have h1 := u64m_bd a0 40 (by decide)
  obtain ⟨m, hm⟩ : ∃ m : Nat, (IntKind.u64.wrap a0).tmod 40 = (m : Int) := ⟨((IntKind.u64.wrap a0).tmod 40).toNat, by omega⟩
  obtain ⟨k, hk⟩ : ∃ k : Nat, k = m + 1 := ⟨_, rfl⟩
  have h2 := u64m_bd a1 (k : Int) (by omega)
  obtain ⟨a, ha⟩ : ∃ a : Nat, (IntKind.u64.wrap a1).tmod (k : Int) = (a : Int) := ⟨((IntKind.u64.wrap a1).tmod (k : Int)).toNat, by omega⟩
  rw [hm] at h1
  rw [ha] at h2
  have hk40 : k ≤ 40 := by omega
  have hkz : ((k : Int) == 0) = false := beq_eq_false_iff_ne.2 (by omega)
  have hk0 : (0 : Int) ≤ (k : Int) := by omega
  have hkw : IntKind.u64.wrap (k : Int) = (k : Int) := by rw [u64w]; omega
  have HK := Lib.hid (show (1 : Int) + (m : Int) = (k : Int) by omega)
  obtain ⟨i3, hi3, hz3, hs3, hb3⟩ := info_parts info3
  clear hk
  obtain ⟨i4, hi4, hz4, hs4, hb4⟩ := info_parts info4
  obtain ⟨i26, hi26, hz26, hs26, hb26⟩ := info_parts info26
  go_enter Try.func4, Try.ntmps4
  go_upto_region 2 with (fail)
  clear hm
  rw [HK.out]
  clear HK
  go_upto_region 6 with (fail)
  clear ha
  go_loopw [7, 8, 9, 10] (fun uv fv iv _ wr => ∃ (i : Nat) (vs : List Value), iv = .int .i64 i ∧ i ≤ k ∧ VsAt wr uv.ownBlock fv.ownBlock i vs ∧ wr.ownsRow w.heap.size 26 1 uv i vs ∧ wr.ownsRow w.heap.size 4 1 fv i (cellsB (chF i a)) ∧ (∀ g, uv.ownBlock = some g → fv.ownBlock ≠ some g) ∧ Below w.heap.size w wr) (fun _ _ iv _ _ => k - (intOf iv).toNat)
  case atStart => exact ⟨0, [], rfl, Nat.zero_le _, ⟨rfl, fun j hj => by omega⟩, World.ownsRow_nil _ _ _ _, World.ownsRow_nil _ _ _ _, fun g h => by simp [Value.ownBlock] at h, Below.refl _ _⟩
  case round =>
    obtain ⟨W0, rfl⟩ : ∃ Z, Z = wr := ⟨_, rfl⟩
    obtain ⟨i, vs, rfl, hi, hvs, hou, hof, hne, bel⟩ := hrel
    have i0 : (0 : Int) ≤ i := by omega
    have HVS := Lib.hid hvs
    have HOU := Lib.hid hou
    have HOF := Lib.hid hof
    have HNE := Lib.hid hne
    have BEL := Lib.hid bel
    clear hvs hou hof hne bel
    by_cases hlt : i < k
    · have hlt' : (i : Int) < (k : Int) := by omega
      cases i with
      | zero =>
        have HVP := HVS
        have HUP := HOU
        have HFP := HOF
        have BLP := BEL
        go_upto_region 11 with (fail)
        have hua := HUP.out.alloc (.cells #[.slice none 0 0] 26)
        have hnw1 := Lib.hid (World.news_of_block (cs := #[.slice none 0 0]) (t := 26) (fr := (0, 0)) (heap_alloc_new W0 (.cells #[.slice none 0 0] 26)))
        have hsz1 : w.heap.size ≤ (W0.alloc (.cells #[.slice none 0 0] 26)).heap.size := by have := BLP.out.size; simp; omega
        have hge : decide (a = 0) = decide (a ≤ 0) := by simp only [decide_eq_decide]; omega
        generalize hbx : decide (a ≤ 0) = bx at *
        go_wp2_with (at_builtin; first
          | (refine wpList_append_own_at _ rfl _ _ 22 rfl w.heap.size 26 i26 (.slice none 0 0) 1 24 Try.underlying22 hi26 hz26 hs26 hb26 rfl (by decide) _ (0) vs rfl hua ⟨W0.heap.size, 0, none⟩ 1 1 [.slice none 0 0] rfl rfl hnw1.out (by simp [Value.oneCell']) (by simp only [maxLen]; omega) (by omega) hsz1 ?_; intro v6 w6 own6 gr6 nil6 at6; have gq6 := (grown_alloc (World.grownBy.refl W0 u7.ownBlock) (.cells #[.slice none 0 0] 26)).trans gr6; have hfa := (row_kept HFP.out gq6 (fun g hg e => HNE.out g e hg)).alloc (.cells #[.bool bx] 4); have hnw2 := Lib.hid (World.news_of_block (cs := #[.bool bx]) (t := 4) (fr := (0, 0)) (heap_alloc_new w6 (.cells #[.bool bx] 4))); have B6 := below_grown' BLP.out gq6 (fun k e => (HUP.out.lt k e).1) BLP.out.size; have hsz2 : w.heap.size ≤ (w6.alloc (.cells #[.bool bx] 4)).heap.size := (by have := B6.size; simp; omega))
          | (refine wpList_append_own_at _ rfl _ _ 23 rfl w.heap.size 4 i4 (.bool false) 1 1 Try.underlying23 hi4 hz4 hs4 hb4 rfl (by decide) _ (0) (cellsB (chF (0) a)) rfl hfa ⟨w6.heap.size, 0, none⟩ 1 1 [.bool bx] rfl rfl hnw2.out (by simp [Value.oneCell']) (by simp only [maxLen]; omega) (by omega) hsz2 ?_; intro v7 w7 own7 gr7 nil7 at7))
        have gq7 := (grown_alloc (World.grownBy.refl w6 u8.ownBlock) (.cells #[.bool bx] 4)).trans gr7
        have hw6 : W0.heap.size ≤ w6.heap.size := gq6.size
        have hu6 : v6.ownBlock = u7.ownBlock ∨ ∃ q, W0.heap.size ≤ q ∧ v6.ownBlock = some q := at6.imp id fun e => ⟨_, by simp, e⟩
        have hf7 : v7.ownBlock = u8.ownBlock ∨ ∃ q, w6.heap.size ≤ q ∧ v7.ownBlock = some q := at7.imp id fun e => ⟨_, by simp, e⟩
        have hlt6 : ∀ g, v6.ownBlock = some g → g < w6.heap.size := fun g e => (own6.lt g e).2
        have HN7 := Lib.hid (show ∀ g, v6.ownBlock = some g → v7.ownBlock ≠ some g from fun g e e2 => by
          rcases hf7 with h | ⟨q, hq, h⟩
          · rcases hu6 with h3 | ⟨q3, hq3, h3⟩
            · exact HNE.out g (h3 ▸ e) (h ▸ e2)
            · have := (HFP.out.lt g (h ▸ e2)).2
              rw [h3] at e; cases e; omega
          · have := hlt6 g e
            rw [h] at e2; cases e2; omega)
        have HU7 := Lib.hid (row_kept own6 gq7 (fun g e e2 => by
          rcases hu6 with h3 | ⟨q3, hq3, h3⟩
          · exact HNE.out g (h3 ▸ e) e2
          · have := (HFP.out.lt g e2).2
            rw [h3] at e; cases e; omega))
        have HF7 := Lib.hid (show w7.ownsRow w.heap.size 4 1 v7 (0 + 1) (cellsB (chF (0 + 1) a)) from by rw [chF_snoc, cellsB_snoc, hbx]; exact own7)
        have HV6 := HVP.out.move gq6 (.inl rfl) hu6 (.inl rfl)
        have HV7 := HV6.move gq7 (.inr (.inl rfl)) (.inl rfl) hf7
        have HVN := Lib.hid (show VsAt w7 v6.ownBlock v7.ownBlock (0 + 1) (vs ++ [.slice none 0 0]) from ⟨by simp [HVP.out.1], fun jj hjj => by
          by_cases hj : jj < 0
          · obtain ⟨A, c, e, h⟩ := HV7.2 jj hj
            exact ⟨A, c, by rw [List.getElem?_append_left (by rw [HVP.out.1]; exact hj)]; exact e, h⟩
          · have hje : jj = 0 := by omega
            subst hje
            refine ⟨none, 0, show (vs ++ [.slice none 0 0])[0]? = some (.slice none 0 0) by rw [List.getElem?_append_right (by rw [HVP.out.1]; exact Nat.le_refl _), HVP.out.1]; simp, ?_⟩
            exact .inl ⟨rfl, rfl, rfl⟩⟩)
        have B7 := Lib.hid (below_grown' B6 gq7 (fun k e => (HFP.out.lt k e).1) B6.size)
        clear own6 own7 gr6 gr7 nil6 nil7 at6 at7 gq6 gq7 hfa hua hnw1 hnw2 HV6 HV7 B6 hsz1 hsz2 hu6 hf7 hlt6 hw6
        go_wp2_with (fail)
        go_roundw
        case rel => exact ⟨0 + 1, vs ++ [.slice none 0 0], by go_num, by omega, HVN.out, HU7.out, HF7.out, HN7.out, B7.out⟩
        case measure => simp [intOf]; omega
      | succ j =>
        have hj1 : ((j + 1 : Nat) : Int) - 1 = (j : Int) := by omega
        have hj0 : (0 : Int) < ((j + 1 : Nat) : Int) := by omega
        have hva := World.ownsRow_nil (W0.alloc (.cells #[.int .i64 (j : Int)] 3)) w.heap.size 3 1
        have hnw := Lib.hid (World.news_of_block (cs := #[.int .i64 (j : Int)]) (t := 3) (fr := (0, 0)) (heap_alloc_new W0 (.cells #[.int .i64 (j : Int)] 3)))
        have hszp : w.heap.size ≤ (W0.alloc (.cells #[.int .i64 (j : Int)] 3)).heap.size := by have := BEL.out.size; simp; omega
        go_upto_region 11 with (at_builtin; refine wpList_append_own_at _ rfl _ _ 26 rfl w.heap.size 3 i3 (.int .i64 0) 1 8 Try.underlying26 hi3 hz3 hs3 hb3 rfl (by decide) (.slice none 0 0) 0 [] rfl hva ⟨W0.heap.size, 0, none⟩ 1 1 [.int .i64 (j : Int)] rfl rfl hnw.out (by simp [Value.oneCell']) (by simp only [maxLen]; omega) (by omega) hszp ?_; intro vp wp ownp grp nilp atp)
        obtain ⟨gp, cp, rfl, hgp, hpc⟩ : ∃ gp cp, vp = .slice (some ⟨gp, 0, none⟩) 1 cp ∧ W0.heap.size ≤ gp ∧ wp.cell? ⟨gp, 0, none⟩ = some (.int .i64 (j : Int)) := by
          rcases ownp.2 with ⟨_, h0⟩ | ⟨g, c, cur, e, hB, hb, h1, h2, h3, h4⟩
          · omega
          · refine ⟨g, c, e, ?_, ?_⟩
            · rw [e] at atp
              rcases atp with h | h
              · cases h
              · have := Option.some.inj h
                have hs := size_alloc W0 (.cells #[.int .i64 (j : Int)] 3)
                show W0.heap.size ≤ g
                have h5 : g = (W0.alloc (.cells #[.int .i64 (j : Int)] 3)).heap.size := this
                omega
            · have hb' : Blk wp g 3 cur := hb
              have e0 : ([] ++ [Value.int .i64 (j : Int)])[0]? = some (.int .i64 (j : Int)) := rfl
              rw [← h4, List.getElem?_take_of_lt (by omega), Array.getElem?_toList] at e0
              rw [hb'.cell, e0]
        have grw : W0.grownBy wp none := (grown_al W0 _).trans grp
        have HVP := Lib.hid (HVS.out.move grw (.inr (.inr rfl)) (.inl rfl) (.inl rfl))
        have HUP := Lib.hid (row_kept HOU.out grw (fun g _ e => by cases e))
        have HFP := Lib.hid (row_kept HOF.out grw (fun g _ e => by cases e))
        have BLP := Lib.hid (below_grown' BEL.out grw (fun k e => by cases e) BEL.out.size)
        have hug : u7.ownBlock ≠ some gp := fun e => by have := (HOU.out.lt gp e).2; omega
        have hfg : u8.ownBlock ≠ some gp := fun e => by have := (HOF.out.lt gp e).2; omega
        have HPC := Lib.hid (show chP (j + 1) = [(j : Int)] from rfl)
        clear ownp grp nilp atp hva hnw hszp grw HVS HOU HOF BEL
        have hua := HUP.out.alloc (.cells #[.slice (some ⟨gp, 0, none⟩) 1 cp] 26)
        have hnw1 := Lib.hid (World.news_of_block (cs := #[.slice (some ⟨gp, 0, none⟩) 1 cp]) (t := 26) (fr := (0, 0)) (heap_alloc_new wp (.cells #[.slice (some ⟨gp, 0, none⟩) 1 cp] 26)))
        have hsz1 : w.heap.size ≤ (wp.alloc (.cells #[.slice (some ⟨gp, 0, none⟩) 1 cp] 26)).heap.size := by have := BLP.out.size; simp; omega
        have hge : decide ((a : Int) ≤ (j : Int) + 1) = decide (a ≤ j + 1) := by simp only [decide_eq_decide]; omega
        generalize hbx : decide (a ≤ j + 1) = bx at *
        go_wp2_with (at_builtin; first
          | (refine wpList_append_own_at _ rfl _ _ 22 rfl w.heap.size 26 i26 (.slice none 0 0) 1 24 Try.underlying22 hi26 hz26 hs26 hb26 rfl (by decide) _ (j + 1) vs rfl hua ⟨wp.heap.size, 0, none⟩ 1 1 [.slice (some ⟨gp, 0, none⟩) 1 cp] rfl rfl hnw1.out (by simp [Value.oneCell']) (by simp only [maxLen]; omega) (by omega) hsz1 ?_; intro v6 w6 own6 gr6 nil6 at6; have gq6 := (grown_alloc (World.grownBy.refl wp u7.ownBlock) (.cells #[.slice (some ⟨gp, 0, none⟩) 1 cp] 26)).trans gr6; have hfa := (row_kept HFP.out gq6 (fun g hg e => HNE.out g e hg)).alloc (.cells #[.bool bx] 4); have hnw2 := Lib.hid (World.news_of_block (cs := #[.bool bx]) (t := 4) (fr := (0, 0)) (heap_alloc_new w6 (.cells #[.bool bx] 4))); have B6 := below_grown' BLP.out gq6 (fun k e => (HUP.out.lt k e).1) BLP.out.size; have hsz2 : w.heap.size ≤ (w6.alloc (.cells #[.bool bx] 4)).heap.size := (by have := B6.size; simp; omega))
          | (refine wpList_append_own_at _ rfl _ _ 23 rfl w.heap.size 4 i4 (.bool false) 1 1 Try.underlying23 hi4 hz4 hs4 hb4 rfl (by decide) _ (j + 1) (cellsB (chF (j + 1) a)) rfl hfa ⟨w6.heap.size, 0, none⟩ 1 1 [.bool bx] rfl rfl hnw2.out (by simp [Value.oneCell']) (by simp only [maxLen]; omega) (by omega) hsz2 ?_; intro v7 w7 own7 gr7 nil7 at7))
        have gq7 := (grown_alloc (World.grownBy.refl w6 u8.ownBlock) (.cells #[.bool bx] 4)).trans gr7
        have hw6 : wp.heap.size ≤ w6.heap.size := gq6.size
        have hu6 : v6.ownBlock = u7.ownBlock ∨ ∃ q, wp.heap.size ≤ q ∧ v6.ownBlock = some q := at6.imp id fun e => ⟨_, by simp, e⟩
        have hf7 : v7.ownBlock = u8.ownBlock ∨ ∃ q, w6.heap.size ≤ q ∧ v7.ownBlock = some q := at7.imp id fun e => ⟨_, by simp, e⟩
        have hlt6 : ∀ g, v6.ownBlock = some g → g < w6.heap.size := fun g e => (own6.lt g e).2
        have HN7 := Lib.hid (show ∀ g, v6.ownBlock = some g → v7.ownBlock ≠ some g from fun g e e2 => by
          rcases hf7 with h | ⟨q, hq, h⟩
          · rcases hu6 with h3 | ⟨q3, hq3, h3⟩
            · exact HNE.out g (h3 ▸ e) (h ▸ e2)
            · have := (HFP.out.lt g (h ▸ e2)).2
              rw [h3] at e; cases e; omega
          · have := hlt6 g e
            rw [h] at e2; cases e2; omega)
        have HU7 := Lib.hid (row_kept own6 gq7 (fun g e e2 => by
          rcases hu6 with h3 | ⟨q3, hq3, h3⟩
          · exact HNE.out g (h3 ▸ e) e2
          · have := (HFP.out.lt g e2).2
            rw [h3] at e; cases e; omega))
        have HF7 := Lib.hid (show w7.ownsRow w.heap.size 4 1 v7 (j + 1 + 1) (cellsB (chF (j + 1 + 1) a)) from by rw [chF_snoc, cellsB_snoc, hbx]; exact own7)
        have HV6 := HVP.out.move gq6 (.inl rfl) hu6 (.inl rfl)
        have HV7 := HV6.move gq7 (.inr (.inl rfl)) (.inl rfl) hf7
        have HVN := Lib.hid (show VsAt w7 v6.ownBlock v7.ownBlock (j + 1 + 1) (vs ++ [.slice (some ⟨gp, 0, none⟩) 1 cp]) from ⟨by simp [HVP.out.1], fun jj hjj => by
          by_cases hj : jj < j + 1
          · obtain ⟨A, c, e, h⟩ := HV7.2 jj hj
            exact ⟨A, c, by rw [List.getElem?_append_left (by rw [HVP.out.1]; exact hj)]; exact e, h⟩
          · have hje : jj = j + 1 := by omega
            subst hje
            refine ⟨(some ⟨gp, 0, none⟩), cp, show (vs ++ [.slice (some ⟨gp, 0, none⟩) 1 cp])[j + 1]? = some (.slice (some ⟨gp, 0, none⟩) 1 cp) by rw [List.getElem?_append_right (by rw [HVP.out.1]; exact Nat.le_refl _), HVP.out.1]; simp, ?_⟩
            refine .inr ⟨gp, rfl, ?_, ?_, ?_⟩
            · have z := World.block_lt_of_cell? _ _ hpc
              have c6 : w6.cell? ⟨gp, 0, none⟩ = some (.int .i64 (j : Int)) := by rw [← hpc]; exact World.cell?_of_block (a := ⟨gp, 0, none⟩) (gq6.block gp z (fun e => hug e.symm))
              have z6 := World.block_lt_of_cell? _ _ c6
              rw [hj1, ← c6]; exact World.cell?_of_block (a := ⟨gp, 0, none⟩) (gq7.block gp z6 (fun e => hfg e.symm))
            · rcases hu6 with h | ⟨q, hq, h⟩
              · rw [h]; exact hug
              · rw [h]; intro e; cases e; have z : gp < wp.heap.size := World.block_lt_of_cell? _ _ hpc; omega
            · rcases hf7 with h | ⟨q, hq, h⟩
              · rw [h]; exact hfg
              · rw [h]; intro e; cases e
                have z := World.block_lt_of_cell? _ _ hpc
                have : gp < wp.heap.size := z
                omega⟩)
        have B7 := Lib.hid (below_grown' B6 gq7 (fun k e => (HFP.out.lt k e).1) B6.size)
        clear own6 own7 gr6 gr7 nil6 nil7 at6 at7 gq6 gq7 hfa hua hnw1 hnw2 HV6 HV7 B6 hsz1 hsz2 hu6 hf7 hlt6 hw6
        go_wp2_with (fail)
        go_roundw
        case rel => exact ⟨j + 1 + 1, vs ++ [.slice (some ⟨gp, 0, none⟩) 1 cp], by go_num, by omega, HVN.out, HU7.out, HF7.out, HN7.out, B7.out⟩
        case measure => simp [intOf]; omega
    · have hie : i = k := by omega
      subst hie
      have HLL := Lib.hid (show RdLL W0 u7 W0.heap.size (chL i) from by
        rcases HOU.out.2 with ⟨e, h0⟩ | ⟨g, cap, cur, e, hB, hb, h1, h2, h3, h4⟩
        · have h00 : chL i = [] := by rw [h0]; rfl
          exact .inl ⟨_, _, by rw [e], h00⟩
        · have hb' : Blk W0 g 26 cur := hb
          refine .inr ⟨g, 0, cap, by rw [e, chL_len], hb'.lt, fun j hj => ?_⟩
          rw [chL_len] at hj
          obtain ⟨A, c, e2, h5⟩ := HVS.out.2 j hj
          have e0 := e2
          rw [← h4, List.getElem?_take_of_lt (by omega), Array.getElem?_toList] at e0
          refine ⟨_, by rw [Nat.zero_add, hb'.cell]; exact e0, ?_⟩
          rw [show (chL i).getD j [] = chP j from par_chL hj]
          rcases h5 with ⟨rfl, rfl, rfl⟩ | ⟨g2, rfl, hc, _, _⟩
          · exact .inl ⟨none, 0, rfl, fun _ => rfl, rfl⟩
          · cases j with
            | zero => exact .inl ⟨_, c, rfl, fun h => by (cases h), rfl⟩
            | succ j =>
              refine .inr ⟨g2, 0, c, rfl, World.block_lt_of_cell? _ _ hc, fun q hq => ?_⟩
              have hq0 : q = 0 := by simp [chP] at hq; omega
              subst hq0
              rw [hc]; simp [chP])
      have HFF := Lib.hid (show RdB W0 u8 W0.heap.size (chF i a) from by
        rcases HOF.out.2 with ⟨e, h0⟩ | ⟨g, cap, cur, e, hB, hb, h1, h2, h3, h4⟩
        · have h00 : chF i a = [] := by rw [h0]; rfl
          exact .inl ⟨_, _, by rw [e], h00⟩
        · have hb' : Blk W0 g 4 cur := hb
          refine .inr ⟨g, 0, cap, by rw [e, chF_len], hb'.lt, fun j hj => ?_⟩
          have hj2 := hj
          rw [chF_len] at hj2
          have e0 : (cellsB (chF i a))[j]? = some (.bool ((chF i a).getD j false)) := by
            unfold cellsB; rw [List.getElem?_map, List.getElem?_eq_getElem hj, List.getD_eq_getElem?_getD, List.getElem?_eq_getElem hj]; rfl
          rw [← h4, List.getElem?_take_of_lt (by omega), Array.getElem?_toList] at e0
          rw [Nat.zero_add, hb'.cell, e0])
      have HH := Lib.hid (hosts_walk u7 u8 (chL i) (chF i a) W0 HLL.out HFF.out (by rw [chF_len]; omega) (by rw [chL_len]; omega) (fun _ => ⟨by rw [chL_len]; omega, fun j hj => by
        rw [chL_len] at hj
        rw [par_chL hj]
        cases j <;> simp [chP]⟩))
      have HOK := Lib.hid (hosts_ok (LL := chL i) (fs := chF i a) (by rw [chL_len, chF_len]) (by rw [chL_len]; omega) (ch_ok i).2 (ch_ok i).1)
      clear HLL HFF HOU HOF HVS HNE
      go_wp2_with (fail)
      refine HH.out.mono ?_
      rintro y w2 ⟨⟨r, L, e, rfl, his, hrd, hl⟩, B2⟩
      obtain ⟨rfl, hL⟩ := his.one HOK.out
      rw [chL_len] at hL
      have hLn : L.length = i := by rw [hL]; simp
      have HGET := Lib.hid (show ∀ p, p < i → L.getD p 0 = ((if p < a then 0 else if p = a then 2 else 3 : Nat) : Int) from fun p hp => by rw [hL, st_get hp, st_ch hp])
      obtain ⟨A2, c2, rfl⟩ := hrd.form
      have HR := Lib.hid hrd
      have B3 := Lib.hid (below_trans BEL.out B2)
      have hen : ((i : Int) != (i : Int)) = false := by simp
      clear his hrd hl B2 HH HOK hL BEL
      rw [errI_zero, hLn]
      go_upto_region 16 with (fail)
      go_loopw [13, 14] (fun iv _ wl => ∃ p : Nat, iv = .int .i64 p ∧ p ≤ i ∧ wl = w2) (fun iv _ _ => i - (intOf iv).toNat)
      case atStart => exact ⟨0, rfl, Nat.zero_le _, rfl⟩
      case round =>
        obtain ⟨w3, rfl⟩ : ∃ Z, Z = wr := ⟨_, rfl⟩
        obtain ⟨p, rfl, hp, hw3⟩ := hrel
        subst hw3
        have p0 : (0 : Int) ≤ p := by omega
        by_cases hpi : p < i
        · have hpi' : (p : Int) < (i : Int) := by omega
          obtain ⟨g, o, rfl, c0⟩ := HR.out.cell (i := p) (by omega)
          have z0 := World.block_lt_of_cell? _ _ c0
          rw [HGET.out p hpi] at c0
          by_cases h1 : p < a
          · rw [if_pos h1] at c0
            have f1 : ((p : Int) == (a : Int)) = false := beq_eq_false_iff_ne.2 (by omega)
            have f2 : ¬ (a : Int) < (p : Int) := by omega
            have f3 : (((0 : Nat) : Int) != 0) = false := by decide
            go_wp2_with (fail)
            go_roundw
            case rel => exact ⟨p + 1, by go_num, by omega, by first | rfl | trivial⟩
            case measure => simp [intOf]; omega
          · rw [if_neg h1] at c0
            by_cases h2 : p = a
            · rw [if_pos h2] at c0
              have f1 : ((p : Int) == (a : Int)) = true := by simp [h2]
              have f2 : ¬ (a : Int) < (p : Int) := by omega
              have f3 : (((2 : Nat) : Int) != 2) = false := by decide
              clear h2
              go_wp2_with (fail)
              go_roundw
              case rel => exact ⟨p + 1, by go_num, by omega, by first | rfl | trivial⟩
              case measure => simp [intOf]; omega
            · rw [if_neg h2] at c0
              have f1 : ((p : Int) == (a : Int)) = false := beq_eq_false_iff_ne.2 (by omega)
              have f2 : (a : Int) < (p : Int) := by omega
              have f3 : (((3 : Nat) : Int) != 3) = false := by decide
              go_wp2_with (fail)
              go_roundw
              case rel => exact ⟨p + 1, by go_num, by omega, by first | rfl | trivial⟩
              case measure => simp [intOf]; omega
        · have hpi' : ¬ (p : Int) < (i : Int) := by omega
          go_wp2_with (fail)
          refine (sure_walk _).mono ?_
          rintro y w4 ⟨rfl, B4⟩
          have B5 := below_trans B3.out B4
          go_wp2
          go_ret
          exact ⟨rfl, B5⟩
end Go.Proofs.Ytbnnbhblfclomaa
