/- The law GraphTurned, walked. -/
import Derived.Test.YtdgclggmemciaaaT2
import Derived.Test.YtdgclggmemciaaaL8
import Derived.Test.YtdgclggmemciaaaHeldTail
import Derived.StillTailTactics
namespace Go.Proofs.Ytdgclggmemciaaa
open Go.RowKit
set_option linter.unusedSimpArgs false
set_option linter.unusedVariables false
theorem p2_alloc {W : World} {p : Addr} {v0 v1 : Value} (zp : p.block < W.heap.size) (o : Obj) (h : W.cell? p = some v0 ∧ W.cell? ⟨p.block, p.off + 1, none⟩ = some v1) :
    (W.alloc o).drew.cell? p = some v0 ∧ (W.alloc o).drew.cell? ⟨p.block, p.off + 1, none⟩ = some v1 := by
  have B := below_al (Below.refl W.heap.size W) o
  exact ⟨(B.cell (p := p) zp).trans h.1, (B.cell (p := ⟨p.block, p.off + 1, none⟩) zp).trans h.2⟩
theorem below_al' {B : Nat} {w w1 : World} (h : Below B w w1) (o : Obj) (hs : B ≤ w1.heap.size := by first | assumption | omega) : Below B w (w1.drew.alloc o) := (below_drewN h 1).alloc hs o
def hasL (l : List Nat) (v : Nat) : Bool := l.any (· == v)
theorem any_take_succ (l : List Nat) (i v : Nat) (h : i < l.length) : hasL (l.take (i + 1)) v = (hasL (l.take i) v || (l.getD i 0 == v)) := by
  unfold hasL
  rw [List.take_add_one, List.getElem?_eq_getElem h, List.getD_eq_getElem?_getD, List.getElem?_eq_getElem h, List.any_append]; simp
theorem hasL_nil (v : Nat) : hasL [] v = false := rfl
theorem any_filt (seen : Nat → Bool) (n v : Nat) (h : v < n) : hasL ((List.range n).filter seen) v = seen v := by
  unfold hasL
  rw [Bool.eq_iff_iff, List.any_eq_true]
  constructor
  · rintro ⟨x, h1, h2⟩
    rw [beq_iff_eq] at h2
    subst h2
    exact (List.mem_filter.1 h1).2
  · intro hs
    exact ⟨v, List.mem_filter.2 ⟨List.mem_range.2 h, hs⟩, by simp⟩
def LoopIs (E : Ways) (n k : Nat) (is : Bool) : Prop := (is = true ∧ k < n ∧ Cyc E k ∧ ∀ j, j < k → ¬ Cyc E j) ∨ (is = false ∧ k = 0 ∧ ∀ j, j < n → ¬ Cyc E j)
theorem LoopSaid.is {E : Ways} {n : Nat} {W : World} {x : Ending} {w' : World} (h : LoopSaid E n W x w') : ∃ k is, LoopIs E n k is ∧ x = .returned (.tuple #[.int .i64 (k : Nat), .bool is, .nilIface]) ∧ Below W.heap.size W w' := by
  obtain ⟨⟨k, h1, h2, h3, h4⟩ | ⟨h1, h2⟩, B⟩ := h
  · exact ⟨k, true, .inl ⟨rfl, h1, h2, h3⟩, h4, B⟩
  · exact ⟨0, false, .inr ⟨rfl, rfl, h1⟩, h2, B⟩
theorem LoopIs.turn {E : Ways} {n k k2 : Nat} {is is2 : Bool} (h : LoopIs E n k is) (h2 : LoopIs (turnE E) n k2 is2) : k2 = k ∧ is2 = is := by
  rcases h with ⟨a1, a2, a3, a4⟩ | ⟨a1, a2, a3⟩
  · rcases h2 with ⟨b1, b2, b3, b4⟩ | ⟨b1, b2, b3⟩
    · have c1 := a4 k2
      have c2 := b4 k
      have c3 := cyc_turn.1 b3
      have c4 := cyc_turn.2 a3
      refine ⟨?_, by rw [a1, b1]⟩
      rcases Nat.lt_trichotomy k k2 with c | c | c
      · exact absurd c4 (c2 c)
      · exact c.symm
      · exact absurd c3 (c1 c)
    · exact absurd (cyc_turn.2 a3) (b3 k a2)
  · rcases h2 with ⟨b1, b2, b3, b4⟩ | ⟨b1, b2, b3⟩
    · exact absurd (cyc_turn.1 b3) (a3 k2 b2)
    · exact ⟨by rw [a2, b2], by rw [a1, b1]⟩
set_option maxRecDepth 100000 in
set_option maxHeartbeats 2000000 in
theorem law_main (n : Nat) (a b : Int) (A : Option Addr) (cap : Nat) (E : Ways) (w : World) (hL : Pairs w (.slice A E.length cap) (castE E)) (hn1 : 1 ≤ n) (hn : n ≤ 40) (hm : E.length ≤ 80) (hE : ∀ e, e ∈ E → e.1 < n ∧ e.2 < n) :
    Calls Try.prog 3 #[.int .i64 n, .slice A E.length cap, .agg #[.int .i64 a, .int .i64 b]] w (TrueSaid w) := by
  obtain ⟨i0, hi0, hz0, hz1, hz2⟩ := info_parts info23
  have hh : hugeB n E.length = false := by unfold hugeB; simp; omega
  have HW := Lib.hid (fun W => huge_walk n A E.length cap W)
  rw [hh] at HW
  have SW := Lib.hid (fun W => sure_walk W)
  have B1 := below_al (Below.refl w.heap.size w) (.cells #[.int .i64 a, .int .i64 b] 23)
  have hbx := Blk.new w 23 #[.int .i64 a, .int .i64 b]
  have HL1 := Lib.hid (hL.below B1)
  have CK := check_walk n _ _ _ (hL.below B1)
  rw [chkF_ok hE (by omega) (by omega), errV_zero] at CK
  have HCK := Lib.hid CK
  have HE := Lib.hid hE
  have HBX := Lib.hid hbx
  have n1 : ¬ (n : Int) < 1 := by omega
  clear hL hE CK hh hbx
  generalize hW : w.alloc (.cells #[.int .i64 a, .int .i64 b] 23) = W at *
  generalize hbx : w.heap.size = bx at *
  go_enter Try.func3, Try.ntmps3
  go_wp2_with (fail)
  clear hW
  refine (HW.out _).mono ?_
  rintro x w1 ⟨rfl, rfl⟩
  go_wp2_with (fail)
  refine HCK.out.mono ?_
  rintro x w2 ⟨rfl, B2⟩
  have B12 : Below w.heap.size w w2 := below_trans (hbx ▸ B1) B2
  have HL2 := Lib.hid (HL1.out.below B2)
  have HBX2 := Lib.hid (HBX.out.below B2)
  have zbx := HBX2.out.lt
  clear HW HCK HL1 HBX B1 B2
  generalize hm' : E.length = m at *
  have HM := Lib.hid hm'
  clear hm'
  go_upto_region 5 with (fail)
  go_loopw [7, 8] (fun tv iv wr => ∃ k : Nat, iv = .int .i64 k ∧ k ≤ m ∧ wr.ownsRow w2.heap.size 23 2 tv k (cells2 (turnE (E.take k))) ∧ Below w2.heap.size w2 wr) (fun _ iv _ => m - (intOf iv).toNat)
  case atStart => exact ⟨0, rfl, Nat.zero_le _, World.ownsRow_nil _ _ _ _, Below.refl _ _⟩
  case round =>
    obtain ⟨k, rfl, hk, hv, Br⟩ := hrel
    by_cases hkm : k < m
    · have d0 : decide ((k : Int) < (m : Int)) = true := decide_eq_true (by omega)
      obtain ⟨A', cap', e0, hbig, hp⟩ := HL2.out
      simp only [Value.slice.injEq] at e0
      obtain ⟨rfl, hqq, rfl⟩ := e0
      clear hqq
      rw [castE_len] at hp hbig
      obtain ⟨ad, rfl, hl, hc⟩ := hp (by rw [HM.out]; omega)
      obtain ⟨x0, x1⟩ := hc k (by rw [HM.out]; omega)
      obtain ⟨⟨y, z⟩, hab⟩ : ∃ e, E[k]? = some e := ⟨_, List.getElem?_eq_getElem (by rw [HM.out]; omega)⟩
      rw [castE_get hab] at x0 x1
      have e1 : ∀ o p, (⟨(ad.add (k * 2)).block, o, p⟩ : Addr).block < w2.heap.size := fun o p => by show (ad.add (k * 2)).block < w2.heap.size; rw [add_block]; exact hl
      have hadb : (ad.add (k * 2)).block < w2.heap.size := by rw [add_block]; exact hl
      have c0 := (Br.cell (p := ad.add (k * 2)) hadb).trans x0
      have c1 := (Br.cell (e1 _ _)).trans x1
      have hsz := Br.size
      have hfar : some (ad.add (k * 2)).block ≠ u7.ownBlock := fun c => by have := (hv.lt _ c.symm).1; omega
      have hfar1 : some (⟨(ad.add (k * 2)).block, (ad.add (k * 2)).off + 1, none⟩ : Addr).block ≠ u7.ownBlock := hfar
      have HT := Lib.hid (turnE_take E k y z hab)
      have htl : (turnE (E.take k)).length = k := by rw [turnE_len, List.length_take, HM.out]; omega
      have k0 : (0 : Int) ≤ (k : Int) := by omega
      have k1 : (k : Int) < (m : Int) := by omega
      have hcl := cells2_len (turnE (E.take k))
      clear hp hbig hc hab x0 x1 e1
      go_upto_region 7 with (fail)
      refine wp_region_noPanic ?_
      refine wp_regionT (F := fun w' => w'.cell? (ad.add (k * 2)) = some (.int .i64 (y : Int)) ∧ w'.cell? ⟨(ad.add (k * 2)).block, (ad.add (k * 2)).off + 1, none⟩ = some (.int .i64 (z : Int))) (last := 14) (by kernel_rfl) (⟨c0, c1⟩) (fun hHeld => ?_)
      refine regT_take (i := 0) (oi := _) (v := ?_) rfl (by kernel_rfl) (by kernel_rfl) (by kernel_rfl) (by kernel_rfl) (fun _ _ _ h => h) (by rfl) ?_ (by assumption) ?_
      rotate_left
      · intro w hSw; (try dsimp only at hSw); obtain ⟨c0, c1⟩ := hSw; go_simp; try with_reducible rfl
      (try simp only [Act.put, List.setIfInBounds_toArray, List.set_cons_zero, List.set_cons_succ])
      refine regT_take (i := 1) (oi := _) (v := ?_) rfl (by kernel_rfl) (by kernel_rfl) (by kernel_rfl) (by kernel_rfl) (fun _ _ _ h => h) (by rfl) ?_ (by assumption) ?_
      rotate_left
      · intro w hSw; (try dsimp only at hSw); obtain ⟨c0, c1⟩ := hSw; go_simp; try with_reducible rfl
      (try simp only [Act.put, List.setIfInBounds_toArray, List.set_cons_zero, List.set_cons_succ])
      refine regT_take (i := 2) (oi := _) (v := ?_) rfl (by kernel_rfl) (by kernel_rfl) (by kernel_rfl) (by kernel_rfl) (fun _ _ _ h => h) (by rfl) ?_ (by assumption) ?_
      rotate_left
      · intro w hSw; (try dsimp only at hSw); obtain ⟨c0, c1⟩ := hSw; go_simp; try with_reducible rfl
      (try simp only [Act.put, List.setIfInBounds_toArray, List.set_cons_zero, List.set_cons_succ])
      refine regT_take (i := 3) (oi := _) (v := ?_) rfl (by kernel_rfl) (by kernel_rfl) (by kernel_rfl) (by kernel_rfl) (fun _ _ _ h => h) (by rfl) ?_ (by assumption) ?_
      rotate_left
      · intro w hSw; (try dsimp only at hSw); obtain ⟨c0, c1⟩ := hSw; go_simp; try with_reducible rfl
      (try simp only [Act.put, List.setIfInBounds_toArray, List.set_cons_zero, List.set_cons_succ])
      refine regT_take (i := 4) (oi := _) (v := ?_) rfl (by kernel_rfl) (by kernel_rfl) (by kernel_rfl) (by kernel_rfl) (fun _ _ _ h => h) (by rfl) ?_ (by assumption) ?_
      rotate_left
      · intro w hSw; (try dsimp only at hSw); obtain ⟨c0, c1⟩ := hSw; go_simp; try with_reducible rfl
      (try simp only [Act.put, List.setIfInBounds_toArray, List.set_cons_zero, List.set_cons_succ])
      refine regT_take (i := 5) (oi := _) (v := ?_) rfl (by kernel_rfl) (by kernel_rfl) (by kernel_rfl) (by kernel_rfl) (fun _ _ _ h => h) (by rfl) ?_ (by assumption) ?_
      rotate_left
      · intro w hSw; (try dsimp only at hSw); obtain ⟨c0, c1⟩ := hSw; go_simp; try with_reducible rfl
      (try simp only [Act.put, List.setIfInBounds_toArray, List.set_cons_zero, List.set_cons_succ])
      refine regT_take (i := 6) (oi := _) (v := ?_) rfl (by kernel_rfl) (by kernel_rfl) (by kernel_rfl) (by kernel_rfl) (fun _ _ _ h => h) (by rfl) ?_ (by assumption) ?_
      rotate_left
      · intro w hSw; (try dsimp only at hSw); obtain ⟨c0, c1⟩ := hSw; go_simp; try with_reducible rfl
      (try simp only [Act.put, List.setIfInBounds_toArray, List.set_cons_zero, List.set_cons_succ])
      refine regT_take (i := 7) (oi := _) (v := ?_) rfl (by kernel_rfl) (by kernel_rfl) (by kernel_rfl) (by kernel_rfl) (fun _ _ _ h => h) (by rfl) ?_ (by assumption) ?_
      rotate_left
      · intro w hSw; (try dsimp only at hSw); obtain ⟨c0, c1⟩ := hSw; go_simp; try with_reducible rfl
      (try simp only [Act.put, List.setIfInBounds_toArray, List.set_cons_zero, List.set_cons_succ])
      refine regT_take (i := 8) (oi := _) (v := ?_) rfl (by kernel_rfl) (by kernel_rfl) (by kernel_rfl) (by kernel_rfl) (fun _ _ _ h => h) (by rfl) ?_ (by assumption) ?_
      rotate_left
      · intro w hSw; (try dsimp only at hSw); obtain ⟨c0, c1⟩ := hSw; go_simp; try with_reducible rfl
      (try simp only [Act.put, List.setIfInBounds_toArray, List.set_cons_zero, List.set_cons_succ])
      refine regT_take (i := 9) (oi := _) (v := ?_) rfl (by kernel_rfl) (by kernel_rfl) (by kernel_rfl) (by kernel_rfl) (fun _ _ _ h => h) (by rfl) ?_ (by assumption) ?_
      rotate_left
      · intro w hSw; (try dsimp only at hSw); obtain ⟨c0, c1⟩ := hSw; go_simp; try with_reducible rfl
      (try simp only [Act.put, List.setIfInBounds_toArray, List.set_cons_zero, List.set_cons_succ])
      refine regT_take (i := 10) (oi := _) (v := ?_) rfl (by kernel_rfl) (by kernel_rfl) (by kernel_rfl) (by kernel_rfl) (fun _ _ _ h => h) (by rfl) ?_ (by assumption) ?_
      rotate_left
      · intro w hSw; (try dsimp only at hSw); obtain ⟨c0, c1⟩ := hSw; go_simp; try with_reducible rfl
      (try simp only [Act.put, List.setIfInBounds_toArray, List.set_cons_zero, List.set_cons_succ])
      refine regT_take (i := 11) (oi := _) (v := ?_) rfl (by kernel_rfl) (by kernel_rfl) (by kernel_rfl) (by kernel_rfl) (fun _ _ _ h => h) (by rfl) ?_ (by assumption) ?_
      rotate_left
      · intro w hSw; (try dsimp only at hSw); obtain ⟨c0, c1⟩ := hSw; go_simp; try with_reducible rfl
      (try simp only [Act.put, List.setIfInBounds_toArray, List.set_cons_zero, List.set_cons_succ])
      refine regT_one (i := 12) (o := _) rfl (by kernel_rfl) (fun K hK => ?_)
      go_simp
      refine hK.out _ _ (fun _ => p2_alloc (by omega) _ ⟨c0, c1⟩) (fun hHeld2 => ?_)
      clear hK K
      replace hHeld := hHeld2 (by decide)
      clear hHeld2
      (try simp only [Act.put, List.setIfInBounds_toArray, List.set_cons_zero, List.set_cons_succ])
      refine regT_one (i := 13) (o := _) rfl (by kernel_rfl) (fun K hK => ?_)
      refine step_append_lies _ (by rfl) _ _ _ (by rfl) w2.heap.size 23 i0 _ 2 16 Try.underlying22 hi0 hz0 hz1 hz2 rfl (by omega) u7 _ _ (by rfl) ((hv.drew).alloc _) ⟨wr.heap.size, 0, none⟩ 1 1 [.int .i64 (z : Int), .int .i64 (y : Int)] (by rfl) (by rfl) (World.news_of_block (cs := #[.int .i64 (z : Int), .int .i64 (y : Int)]) (t := 23) (fr := (0, 0)) (heap_alloc_new wr.drew _)) (by simp [Value.oneCell']) (by omega) (by simp only [maxLen]; omega) (by omega) (by simp; omega) (wr.heap.size + 1) (by simp) ?_
      intro gg cap' w1 hown1 hgrow hat hlt
      refine hK.out _ _ (fun _ => ⟨(hgrow.cell_far (ad.add (k * 2)) (by simp; omega) hfar).trans hHeld.1, (hgrow.cell_far ⟨(ad.add (k * 2)).block, (ad.add (k * 2)).off + 1, none⟩ (by simp; omega) hfar1).trans hHeld.2⟩) (fun hHeld2 => ?_)
      clear hK K
      replace hHeld := hHeld2 (by decide)
      clear hHeld2
      (try simp only [Act.put, List.setIfInBounds_toArray, List.set_cons_zero, List.set_cons_succ])
      refine regT_one (i := 14) (o := _) rfl (by kernel_rfl) (fun K hK => ?_)
      go_simp
      refine hK.out _ _ (fun c => absurd rfl c) (fun hHeld2 => ?_)
      clear hK K
      (try simp only [Act.put, List.setIfInBounds_toArray, List.set_cons_zero, List.set_cons_succ])
      refine regT_done (by kernel_rfl) ?_ _
      refine NoPanic.normal ?_
      have B3 := below_grown (below_al' Br (.cells #[.int .i64 (z : Int), .int .i64 (y : Int)] 23)) hgrow (fun k e => (hv.lt k e).1) (by simp; omega)
      rw [← cells2_snoc, ← HT.out] at hown1
      have HO := Lib.hid hown1
      clear hown1 hgrow hat hlt hHeld c0 c1 hv
      go_wp2
      go_roundw
      case rel => exact ⟨k + 1, by go_num, by omega, HO.out, B3⟩
      case measure => simp [intOf]; omega
    · have d0 : decide ((k : Int) < (m : Int)) = false := decide_eq_false (by omega)
      have hkm' : k = m := by omega
      subst hkm'
      have htk : E.take k = E := List.take_of_length_le (by rw [HM.out]; exact Nat.le_refl _)
      rw [htk] at hv
      have hlt : (turnE E).length = k := by rw [turnE_len, HM.out]
      have hv' : wr.ownsRow w2.heap.size 23 2 u7 (turnE E).length (cells2 (turnE E)) := by rw [hlt]; exact hv
      have HT := Lib.hid (Pairs.of_owns2 hv' (by rw [hlt]; omega))
      have HTE : ∀ e, e ∈ turnE E → e.1 < n ∧ e.2 < n := fun e he => by
        have := HE.out (e.2, e.1) (mem_turnE.1 (show (e.1, e.2) ∈ turnE E from he))
        exact ⟨this.2, this.1⟩
      have HTE := Lib.hid HTE
      have HLr := Lib.hid (HL2.out.below Br)
      have hEl : E.length ≤ 1048576 := by rw [HM.out]; omega
      have hTl : (turnE E).length ≤ 1048576 := by rw [hlt]; omega
      have HEl := Lib.hid hEl
      have HTl := Lib.hid hTl
      have B3 := below_trans B12 Br
      have HBX3 := Lib.hid (HBX2.out.below Br)
      have zbx3 := HBX3.out.lt
      have LP := Lib.hid (loop_ok n _ E wr HLr.out HE.out (by omega) hEl)
      clear hv hv' htk hlt hEl hTl HBX2 HL2 Br B12 zbx
      obtain ⟨wo, rfl⟩ : ∃ wo : World, wo = wr := ⟨_, rfl⟩
      go_wp2_with (fail)
      refine LP.out.mono ?_
      intro x w4 hs
      obtain ⟨x1, is, hx1, rfl, B4⟩ := hs.is
      have LQ := Lib.hid (loop_ok n _ (turnE E) w4 (HT.out.below B4) HTE.out (by omega) HTl.out)
      have HX1 := Lib.hid hx1
      clear hs hx1 LP
      go_wp2_with (fail)
      refine LQ.out.mono ?_
      intro x w5 hs
      obtain ⟨x2, is2, hx2, rfl, B5⟩ := hs.is
      obtain ⟨rfl, rfl⟩ := HX1.out.turn hx2
      clear hs hx2 LQ
      have B45 := below_trans B4 B5
      have B35 := below_trans B3 B45
      have HLw := Lib.hid (HLr.out.below B45)
      have HTw := Lib.hid (HT.out.below B45)
      have HBX5 := Lib.hid (HBX3.out.below B45)
      have zbx5 := HBX5.out.lt
      have ca : w5.cell? ⟨bx, 0, none⟩ = some (.int .i64 a) := by rw [HBX5.out.cell]; rfl
      have cb : w5.cell? ⟨bx, 1, none⟩ = some (.int .i64 b) := by rw [HBX5.out.cell]; rfl
      obtain ⟨ua0, ua1⟩ := u64m_bd a n (by omega)
      obtain ⟨ub0, ub1⟩ := u64m_bd b n (by omega)
      clear HLr HT HBX3 B4 B5 B45 B3 HX1
      cases is2
      all_goals
        go_upto_region 12 with (fail)
        go_quiet (fail)
        go_upto_region 13 with (fail)
        generalize (IntKind.u64.wrap a).tmod ↑n = U at *
        generalize (IntKind.u64.wrap b).tmod ↑n = V at *
        obtain ⟨u, rfl⟩ := Int.eq_ofNat_of_zero_le ua0
        obtain ⟨v, rfl⟩ := Int.eq_ofNat_of_zero_le ub0
        have Bq := below_drewN (Below.refl w5.heap.size w5) nq
        have B6 := below_drewN B35 nq
        have HL6 := Lib.hid (HLw.out.below Bq)
        have HT6 := Lib.hid (HTw.out.below Bq)
        generalize w5.drewN nq = w6 at *
        clear HLw HTw HBX5 zbx5 ca cb Bq B35
        have R1 := Lib.hid (reach_ok n u _ E w6 HL6.out HE.out (by omega) HEl.out (by omega))
        go_wp2_with (fail)
        refine R1.out.mono ?_
        rintro x w7 ⟨seen1, pv, hs1, rfl, hp, B7⟩
        have R2 := Lib.hid (reach_ok n v _ (turnE E) w7 (HT6.out.below B7) HTE.out (by omega) HTl.out (by omega))
        have HP := Lib.hid (Reads.of_owns hp)
        have HS1a := Lib.hid hs1
        have hf1 := filt_len seen1 n
        clear R1 hp hs1
        go_wp2_with (fail)
        refine R2.out.mono ?_
        rintro x w8 ⟨seen2, qv, hs2, rfl, hp, B8⟩
        have h12 : seen1 v = seen2 u := by rw [Bool.eq_iff_iff, HS1a.out, hs2, rch_turn]
        have B8' := below_trans (below_trans B6 B7) B8
        have hf2 := filt_len seen2 n
        have hA1 := any_filt seen1 n v (by omega)
        rw [h12] at hA1
        have hA2 := any_filt seen2 n u (by omega)
        obtain ⟨A1, c1p, rfl, hL1⟩ := (HP.out.below B8).form
        obtain ⟨A2, c2p, rfl, hL2⟩ := (Reads.of_owns hp).form
        generalize (List.range n).filter seen1 = L1 at *
        generalize (List.range n).filter seen2 = L2 at *
        have HL1 := Lib.hid hL1
        have HL2 := Lib.hid hL2
        have HS1 := Lib.hid hA1
        have HS2 := Lib.hid hA2
        clear hs2 hp HP HS1a R2 B7 B8 B6 HL6 HT6 hL1 hL2 hA1 hA2 h12
        go_upto_region 17 with (fail)
        go_loop [21, 23] (fun sv iv => ∃ i : Nat, iv = .int .i64 i ∧ i ≤ L1.length ∧ sv = .bool (hasL (L1.take i) v)) (fun _ iv => L1.length - (intOf iv).toNat)
        case atStart => exact ⟨0, rfl, Nat.zero_le _, by rw [List.take_zero, hasL_nil]⟩
        case round =>
          obtain ⟨i, rfl, hi, rfl⟩ := hrel
          by_cases hil : i < L1.length
          · have d0 : decide ((i : Int) < (L1.length : Int)) = true := decide_eq_true (by omega)
            obtain ⟨g, o, rfl, hc⟩ := HL1.out (by omega)
            have c1 := hc i hil
            have HA := Lib.hid (any_take_succ L1 i v hil)
            have i0 : (0 : Int) ≤ (i : Int) := by omega
            have i1 : (i : Int) < (L1.length : Int) := by omega
            clear hc
            generalize hbv : hasL (L1.take i) v = bv at *
            clear hbv
            generalize L1.getD i 0 = la at *
            have q0 : ((la : Int) == (v : Int)) = (la == v) := by
              rw [Bool.eq_iff_iff, beq_iff_eq, beq_iff_eq]; omega
            generalize hq : (la == v) = qv at *
            clear hq
            cases bv
            · go_wp2
              go_round
              case rel => exact ⟨i + 1, by go_num, by omega, by rw [HA.out]; simp⟩
              case measure => simp [intOf]; omega
            · go_wp2
              go_round
              case rel => exact ⟨i + 1, by go_num, by omega, by rw [HA.out]; simp⟩
              case measure => simp [intOf]; omega
          · have d0 : decide ((i : Int) < (L1.length : Int)) = false := decide_eq_false (by omega)
            have hil' : L1.take i = L1 := List.take_of_length_le (by omega)
            rw [hil']
            clear hi hil'
            go_upto_region 21 with (fail)
            go_loop [22, 24] (fun sv iv => ∃ i : Nat, iv = .int .i64 i ∧ i ≤ L2.length ∧ sv = .bool (hasL (L2.take i) u)) (fun _ iv => L2.length - (intOf iv).toNat)
            case atStart => exact ⟨0, rfl, Nat.zero_le _, by rw [List.take_zero, hasL_nil]⟩
            case round =>
              obtain ⟨i, rfl, hi, rfl⟩ := hrel
              by_cases hil : i < L2.length
              · have d0 : decide ((i : Int) < (L2.length : Int)) = true := decide_eq_true (by omega)
                obtain ⟨g, o, rfl, hc⟩ := HL2.out (by omega)
                have c1 := hc i hil
                have HA := Lib.hid (any_take_succ L2 i u hil)
                have i0 : (0 : Int) ≤ (i : Int) := by omega
                have i1 : (i : Int) < (L2.length : Int) := by omega
                clear hc
                generalize hbv : hasL (L2.take i) u = bv at *
                clear hbv
                generalize L2.getD i 0 = la at *
                have q0 : ((la : Int) == (u : Int)) = (la == u) := by
                  rw [Bool.eq_iff_iff, beq_iff_eq, beq_iff_eq]; omega
                generalize hq : (la == u) = qv at *
                clear hq
                cases bv
                · go_wp2
                  go_round
                  case rel => exact ⟨i + 1, by go_num, by omega, by rw [HA.out]; simp⟩
                  case measure => simp [intOf]; omega
                · go_wp2
                  go_round
                  case rel => exact ⟨i + 1, by go_num, by omega, by rw [HA.out]; simp⟩
                  case measure => simp [intOf]; omega
              · have d0 : decide ((i : Int) < (L2.length : Int)) = false := decide_eq_false (by omega)
                have hil' : L2.take i = L2 := List.take_of_length_le (by omega)
                rw [hil']
                clear hi hil'
                rw [HS1.out, HS2.out]
                generalize seen2 u = sb at *
                go_wp2_with (fail)
                refine (SW.out _).mono ?_
                rintro x w9 ⟨rfl, B9⟩
                have B10 := below_trans B8' B9
                go_wp2
                go_ret
                exact ⟨rfl, B10⟩
theorem law_walk (n a b : Int) (A : Option Addr) (len cap : Nat) (L : List (Int × Int)) (w : World) (hl : L.length = len) (hL : Pairs w (.slice A len cap) L) :
    Calls Try.prog 3 #[.int .i64 n, .slice A len cap, .agg #[.int .i64 a, .int .i64 b]] w (TrueSaid w) := by
  subst hl
  by_cases h : hugeB n L.length = true ∨ n < 1 ∨ chkF n L ≠ 0
  · exact law_easy n a b A cap L w hL h
  · rw [not_or, not_or] at h
    obtain ⟨h1, h2, h3⟩ := h
    have h3 : chkF n L = 0 := Classical.byContradiction h3
    obtain ⟨N, E, rfl, rfl, hE, hN, hm⟩ := chkF_zero h3
    rw [castE_len] at h1 ⊢
    unfold hugeB at h1
    simp only [Bool.or_eq_true, Bool.and_eq_true, decide_eq_true_eq, not_or, not_and] at h1
    rw [castE_len] at hL
    exact law_main N a b A cap E w hL (by omega) (by omega) (by omega) hE
end Go.Proofs.Ytdgclggmemciaaa
