/- The law GraphClosed, walked. -/
import Derived.Test.YtdgclggmemciaaaDoorX6
namespace Go.Proofs.YtdgclggmemciaaaDoor
open Go.RowKit
set_option linter.unusedSimpArgs false
set_option linter.unusedVariables false
section
variable {P : Program} {ops : Array Oper} {Q : Exit → Act → World → Prop} {md : Region.Mode} {S : World → Prop}
theorem op_at {i : Nat} {oi : Oper} (h : ops.toList[i]? = some oi) : ops[i]? = some oi := by rw [← Array.getElem?_toList]; exact h
/-- The i-th operation comes up, runs, and yields v in every world that meets S. -/
theorem reg_take {i : Nat} {oi : Oper} {v : Value} {fuel : Nat} {listed : Array Bool} {a : Act} {w : World} (hi : ops.toList[i]? = some oi)
    (hs : Region.noSelect ops = true) (hf : Region.free md ops listed i = true) (hr : (Region.ready md ops listed).contains i = true)
    (hQ : ∀ c a w, Q (.panic c) (a.put oi.dst v) w → Q (.panic c) a w) (hw : Region.wanted oi (yielded ops a.tmps) = true) (hy : ∀ w, S w → (execOp a.eval oi).run P w = .ok (.value v) w) (hS : S w)
    (h : wpAnyH P md ops Q S fuel (listed.setIfInBounds i true) (a.put oi.dst v) w) : wpAnyH P md ops Q S (fuel + 1) listed a w :=
  wpAnyH_take (op_at hi) hs hf hr hQ (Or.inl ⟨hw, hy⟩) hS h
/-- The i-th operation comes up, and is left out. -/
theorem reg_skip {i : Nat} {oi : Oper} {fuel : Nat} {listed : Array Bool} {a : Act} {w : World} (hi : ops.toList[i]? = some oi)
    (hs : Region.noSelect ops = true) (hf : Region.free md ops listed i = true) (hr : (Region.ready md ops listed).contains i = true)
    (hQ : ∀ c a w, Q (.panic c) (a.put oi.dst undef) w → Q (.panic c) a w) (hw : Region.wanted oi (yielded ops a.tmps) = false) (hS : S w)
    (h : wpAnyH P md ops Q S fuel (listed.setIfInBounds i true) (a.put oi.dst undef) w) : wpAnyH P md ops Q S (fuel + 1) listed a w :=
  wpAnyH_take (op_at hi) hs hf hr hQ (Or.inr ⟨hw, rfl⟩) hS h
theorem reg_each {fuel : Nat} {listed : Array Bool} {a : Act} {w : World} {i : Nat} {o : Oper} {rs : List Nat} (ho : ops.toList[i]? = some o)
    (h : ∀ K' : Act → World → Prop, Shut (∀ a w, S w → (S w → wpAnyH P md ops Q S fuel (listed.setIfInBounds i true) a w) → K' a w) → if Region.wanted o (yielded ops a.tmps) = true then Oper.wp P o a w K' Q else K' (a.put o.dst undef) w)
    (hs : AllReadyH P md ops Q S fuel listed a w rs) : AllReadyH P md ops Q S fuel listed a w (i :: rs) := AllReadyH.cons (op_at ho) h hs
end
theorem cycle_is {E : Ways} {n x y k : Nat} {is : Bool} (hE : ∀ e, e ∈ E ++ [(y, x)] → e.1 < n ∧ e.2 < n) (hr : Rch E x y) (h : LoopIs (E ++ [(y, x)]) n k is) : is = true := by
  cases is with
  | true => rfl
  | false => exact absurd (snoc_cyc hr) ((h.acyc hE).1 rfl x)
set_option maxRecDepth 100000 in
set_option maxHeartbeats 8000000 in
theorem closed_main (n : Nat) (a0 b0 : Int) (A : Option Addr) (cap : Nat) (E : Ways) (w : World) (hL : Pairs w (.slice A E.length cap) (castE E)) (hAc : A = none → cap = 0) (hn1 : 1 ≤ n) (hn : n ≤ 40) (hm : E.length ≤ 80) (hE : ∀ e, e ∈ E → e.1 < n ∧ e.2 < n) (hg : ErrType w) :
    Calls Tryd.prog 6 #[.int .i64 n, .slice A E.length cap, .agg #[.int .i64 a0, .int .i64 b0]] w (TrueSaid w) := by
  obtain ⟨i0, hi0, hz0, hz1, hz2⟩ := info_parts info23
  have hh : hugeB n E.length = false := by unfold hugeB; simp; omega
  have HW := Lib.hid (fun W => huge_walk n A E.length cap W)
  rw [hh] at HW
  have SW := Lib.hid (fun W => sure_walk W)
  have B1 := below_al (Below.refl w.heap.size w) (.cells #[.int .i64 a0, .int .i64 b0] 40)
  have CK := check_walk n _ _ _ (hL.below B1)
  rw [chkF_ok hE (by omega) (by omega), errI_zero] at CK
  have HCK := Lib.hid CK
  have HL := Lib.hid hL
  have HE := Lib.hid hE
  have HG := Lib.hid hg
  have HAc := Lib.hid hAc
  have HBX := Lib.hid (Blk.new w 40 #[.int .i64 a0, .int .i64 b0])
  have n1 : ¬ (n : Int) < 1 := by omega
  have n0 : (0 : Int) < (n : Int) := by omega
  have OO := Lib.hid (fun W h => order_ok n (.slice A E.length cap) E W h hE (by omega) (by omega))
  have RO := Lib.hid (fun f W h hf => reach_ok n f (.slice A E.length cap) E W h hE (by omega) (by omega) hf)
  clear hL hE CK hh hg hAc
  generalize hm' : E.length = m at *
  have HLEN := Lib.hid hm'
  clear hm'
  go_enter Tryd.func6, Tryd.ntmps6
  go_wp2_with (fail)
  refine (HW.out _).mono ?_
  rintro x w1 ⟨rfl, rfl⟩
  go_wp2_with (fail)
  refine HCK.out.mono ?_
  rintro x w2 ⟨rfl, B2⟩
  have B12 := below_trans B1 B2
  have HBX2 := Lib.hid (HBX.out.below B2)
  have OO2 := Lib.hid (OO.out w2 (HL.out.below B12))
  go_wp2_with (fail)
  refine OO2.out.mono ?_
  rintro x w3 ⟨⟨o, dep, hso, hr⟩, B3⟩
  have B13 := below_trans B12 B3
  have HBX3 := Lib.hid (HBX2.out.below B3)
  have HSO := Lib.hid hso
  clear hso OO2 OO HCK HW B1 B2 B3 HBX HBX2 B12
  rcases hr with ⟨hol, ov, rfl, hov⟩ | ⟨hol, rfl⟩
  rotate_left
  · have NH := Lib.hid (num_hit 9 w3 (HG.out.below B13))
    clear hol HSO RO
    go_wp2_with (fail)
    refine NH.out.mono ?_
    rintro x w4 ⟨rfl, B4⟩
    go_wp2_with (fail)
    refine (SW.out _).mono ?_
    rintro x w5 ⟨rfl, B5⟩
    have B := below_trans (below_trans B13 B4) B5
    go_wp2
    go_ret
    exact ⟨rfl, B⟩
  · have HOL := Lib.hid hol
    have dl : ((o.length : Int) != (n : Int)) = false := by rw [hol]; simp
    obtain ⟨A2, cap2, rfl, hc2⟩ := (Reads.of_owns hov).form
    obtain ⟨go, oo, rfl, hcc⟩ := hc2 (by omega)
    have zgo : go < w3.heap.size := World.block_lt_of_cell? w3 _ (hcc 0 (by omega))
    have HCC := Lib.hid hcc
    have ca : w3.cell? ⟨w.heap.size, 0, none⟩ = some (.int .i64 a0) := by rw [HBX3.out.cell]; rfl
    have cb : w3.cell? ⟨w.heap.size, 1, none⟩ = some (.int .i64 b0) := by rw [HBX3.out.cell]; rfl
    have zbx := HBX3.out.lt
    obtain ⟨ua0, ua1⟩ := u64m_bd a0 n (by omega)
    obtain ⟨ub0, ub1⟩ := u64m_bd b0 n (by omega)
    clear hov hc2 hcc hol
    go_upto_region 6 with (fail)
    go_quiet (fail)
    go_upto_region 7 with (fail)
    generalize (IntKind.u64.wrap a0).tmod ↑n = U at *
    generalize (IntKind.u64.wrap b0).tmod ↑n = V at *
    obtain ⟨u, rfl⟩ := Int.eq_ofNat_of_zero_le ua0
    obtain ⟨v, rfl⟩ := Int.eq_ofNat_of_zero_le ub0
    have B14 := below_drewN B13 nq
    have HC4 := Lib.hid (fun k hk => show (w3.drewN nq).cell? ⟨go, oo + k, none⟩ = some (.int .i64 ((o.getD k 0 : Nat) : Int)) from HCC.out k hk)
    have zgo4 : go < (w3.drewN nq).heap.size := zgo
    generalize w3.drewN nq = w4 at *
    clear HCC zgo ca cb zbx HBX3 B13 dl
    go_upto_if 71 with (fail)
    go_cut [9, 10] from 72 to 73 (fun av bv wx => ∃ p q : Nat, av = .int .i64 p ∧ bv = .int .i64 q ∧ p ≤ q ∧ q < n ∧ w4 = wx)
    case first =>
      by_cases huv : v < u
      · have d1 : decide (v < u) = true := decide_eq_true (by omega)
        go_wp2
        go_meet
        case rel => exact ⟨v, u, rfl, rfl, by omega, by omega, rfl⟩
      · have d1 : decide (v < u) = false := decide_eq_false (by omega)
        go_wp2
        go_meet
        case rel => exact ⟨u, v, rfl, rfl, by omega, by omega, rfl⟩
    case rest =>
      clear ua0 ua1 ub0 ub1
      obtain ⟨p, q, rfl, rfl, hpq, hqn, hw⟩ := hcut
      subst hw
      have hol := HOL.out
      obtain ⟨x, hx⟩ : ∃ x, o[p]? = some x := ⟨_, List.getElem?_eq_getElem (by omega)⟩
      obtain ⟨y, hy⟩ : ∃ y, o[q]? = some y := ⟨_, List.getElem?_eq_getElem (by omega)⟩
      have cx := HC4.out p (by omega)
      have cy := HC4.out q (by omega)
      rw [show o.getD p 0 = x by rw [List.getD_eq_getElem?_getD, hx]; rfl] at cx
      rw [show o.getD q 0 = y by rw [List.getD_eq_getElem?_getD, hy]; rfl] at cy
      have hxn : x < n := HSO.out.gre.lt x (List.mem_of_getElem? hx)
      have hyn : y < n := HSO.out.gre.lt y (List.mem_of_getElem? hy)
      have HX := Lib.hid hx
      have HY := Lib.hid hy
      have p0 : (0 : Int) ≤ (p : Int) := by omega
      have p1 : (p : Int) < (o.length : Int) := by omega
      have q0 : (0 : Int) ≤ (q : Int) := by omega
      have q1 : (q : Int) < (o.length : Int) := by omega
      clear hx hy hol
      go_upto_region 10 with (fail)
      go_cut [11] from 74 to 87 (fun mv wx => Pairs wx mv (castE (E ++ [(x, y)])) ∧ Below w4.heap.size w4 wx)
      case first =>
        have HPd : Pairs w4.drew (.slice A E.length cap) (castE E) := by rw [HLEN.out]; exact HL.out.below (below_drewN B14 1)
        have B0d : Below w4.heap.size w4 w4.drew := below_drewN (Below.refl _ _) 1
        have hAc := HAc.out
        have hEl : E.length ≤ 80 := by rw [HLEN.out]; exact hm
        have c0 := cx
        have c1 := cy
        have c0' := HLEN.out
        subst c0'
        clear HLEN HL HG HE SW RO HSO HOL HC4 B14 cx cy HX HY
        refine wp_region_noPanic ?_
        refine wp_region_held_drew (S := (fun w' => w'.cell? ⟨go, oo + p, none⟩ = some (.int .i64 (x : Int)) ∧ w'.cell? ⟨go, oo + q, none⟩ = some (.int .i64 (y : Int)))) (by kernel_rfl) ?_ (fun hHeld => ?_)
        · exact ⟨c0, c1⟩
        refine reg_take (i := 0) (oi := _) (v := ?_) rfl (by kernel_rfl) (by kernel_rfl) (by kernel_rfl) (fun _ _ _ h => h) (by rfl) ?_ (by assumption) ?_
        rotate_left
        · intro w hSw; (try dsimp only at hSw); obtain ⟨c0, c1⟩ := hSw; go_simp; try with_reducible rfl
        (try simp only [Act.put, List.setIfInBounds_toArray, List.set_cons_zero, List.set_cons_succ])
        refine reg_take (i := 1) (oi := _) (v := ?_) rfl (by kernel_rfl) (by kernel_rfl) (by kernel_rfl) (fun _ _ _ h => h) (by rfl) ?_ (by assumption) ?_
        rotate_left
        · intro w hSw; (try dsimp only at hSw); obtain ⟨c0, c1⟩ := hSw; go_simp; try with_reducible rfl
        (try simp only [Act.put, List.setIfInBounds_toArray, List.set_cons_zero, List.set_cons_succ])
        refine reg_take (i := 3) (oi := _) (v := ?_) rfl (by kernel_rfl) (by kernel_rfl) (by kernel_rfl) (fun _ _ _ h => h) (by rfl) ?_ (by assumption) ?_
        rotate_left
        · intro w hSw; (try dsimp only at hSw); obtain ⟨c0, c1⟩ := hSw; go_simp; try with_reducible rfl
        (try simp only [Act.put, List.setIfInBounds_toArray, List.set_cons_zero, List.set_cons_succ])
        refine reg_take (i := 4) (oi := _) (v := ?_) rfl (by kernel_rfl) (by kernel_rfl) (by kernel_rfl) (fun _ _ _ h => h) (by rfl) ?_ (by assumption) ?_
        rotate_left
        · intro w hSw; (try dsimp only at hSw); obtain ⟨c0, c1⟩ := hSw; go_simp; try with_reducible rfl
        (try simp only [Act.put, List.setIfInBounds_toArray, List.set_cons_zero, List.set_cons_succ])
        refine reg_take (i := 5) (oi := _) (v := ?_) rfl (by kernel_rfl) (by kernel_rfl) (by kernel_rfl) (fun _ _ _ h => h) (by rfl) ?_ (by assumption) ?_
        rotate_left
        · intro w hSw; (try dsimp only at hSw); obtain ⟨c0, c1⟩ := hSw; go_simp; try with_reducible rfl
        (try simp only [Act.put, List.setIfInBounds_toArray, List.set_cons_zero, List.set_cons_succ])
        refine reg_take (i := 6) (oi := _) (v := ?_) rfl (by kernel_rfl) (by kernel_rfl) (by kernel_rfl) (fun _ _ _ h => h) (by rfl) ?_ (by assumption) ?_
        rotate_left
        · intro w hSw; (try dsimp only at hSw); obtain ⟨c0, c1⟩ := hSw; go_simp; try with_reducible rfl
        (try simp only [Act.put, List.setIfInBounds_toArray, List.set_cons_zero, List.set_cons_succ])
        refine reg_take (i := 7) (oi := _) (v := ?_) rfl (by kernel_rfl) (by kernel_rfl) (by kernel_rfl) (fun _ _ _ h => h) (by rfl) ?_ (by assumption) ?_
        rotate_left
        · intro w hSw; (try dsimp only at hSw); obtain ⟨c0, c1⟩ := hSw; go_simp; try with_reducible rfl
        (try simp only [Act.put, List.setIfInBounds_toArray, List.set_cons_zero, List.set_cons_succ])
        refine reg_take (i := 8) (oi := _) (v := ?_) rfl (by kernel_rfl) (by kernel_rfl) (by kernel_rfl) (fun _ _ _ h => h) (by rfl) ?_ (by assumption) ?_
        rotate_left
        · intro w hSw; (try dsimp only at hSw); obtain ⟨c0, c1⟩ := hSw; go_simp; try with_reducible rfl
        (try simp only [Act.put, List.setIfInBounds_toArray, List.set_cons_zero, List.set_cons_succ])
        refine reg_take (i := 9) (oi := _) (v := ?_) rfl (by kernel_rfl) (by kernel_rfl) (by kernel_rfl) (fun _ _ _ h => h) (by rfl) ?_ (by assumption) ?_
        rotate_left
        · intro w hSw; (try dsimp only at hSw); obtain ⟨c0, c1⟩ := hSw; go_simp; try with_reducible rfl
        (try simp only [Act.put, List.setIfInBounds_toArray, List.set_cons_zero, List.set_cons_succ])
        refine reg_take (i := 10) (oi := _) (v := ?_) rfl (by kernel_rfl) (by kernel_rfl) (by kernel_rfl) (fun _ _ _ h => h) (by rfl) ?_ (by assumption) ?_
        rotate_left
        · intro w hSw; (try dsimp only at hSw); obtain ⟨c0, c1⟩ := hSw; go_simp; try with_reducible rfl
        (try simp only [Act.put, List.setIfInBounds_toArray, List.set_cons_zero, List.set_cons_succ])
        refine reg_take (i := 11) (oi := _) (v := ?_) rfl (by kernel_rfl) (by kernel_rfl) (by kernel_rfl) (fun _ _ _ h => h) (by rfl) ?_ (by assumption) ?_
        rotate_left
        · intro w hSw; (try dsimp only at hSw); obtain ⟨c0, c1⟩ := hSw; go_simp; try with_reducible rfl
        (try simp only [Act.put, List.setIfInBounds_toArray, List.set_cons_zero, List.set_cons_succ])
        refine wpAnyH_ready (rs := [2, 12]) (by kernel_rfl) (by simp) ?_
        refine reg_each (o := _) rfl (fun K hK => ?_) ?_
        · skip
          refine step_append_ways rfl _ _ (by rfl) w4.heap.size (.slice none 0 0) [] E A cap (by rfl) (by rfl) (World.ownsRow_nil _ _ _ _) (HPd) (by first | omega | (simp; omega)) (by simp; try omega) hAc ?_
          intro v1 W1 own1 gr1 at1
          rw [List.nil_append] at own1
          refine hK.out _ _ ?_ (fun hHeld2 => ?_)
          · exact ⟨(gr1.cell_far ⟨go, oo + p, none⟩ (by first | omega | (simp; omega)) (by simp [Value.ownBlock])).trans hHeld.1, (gr1.cell_far ⟨go, oo + q, none⟩ (by first | omega | (simp; omega)) (by simp [Value.ownBlock])).trans hHeld.2⟩
          clear hK K hHeld
          have hHeld := hHeld2
          clear hHeld2
          (try simp only [Act.put, List.setIfInBounds_toArray, List.set_cons_zero, List.set_cons_succ])
          have hs1 : w4.heap.size ≤ W1.heap.size := gr1.size
          have B1 := below_grown B0d gr1 (fun k e => by simp [Value.ownBlock] at e) (by simp)
          have hfar0 : ∀ k, k < w4.heap.size → some k ≠ v1.ownBlock := fun k hk e => by have := (own1.lt k e.symm).1; omega
          refine wpAnyH_ready (rs := [12]) (by kernel_rfl) (by simp) ?_
          refine reg_each (o := _) rfl (fun K hK => ?_) ?_
          · skip
            go_simp
            refine hK.out _ _ ?_ (fun hHeld2 => ?_)
            · exact ⟨(World.cell?_alloc_lt _ _ ⟨go, oo + p, none⟩ (by first | omega | (simp; omega))).trans hHeld.1, (World.cell?_alloc_lt _ _ ⟨go, oo + q, none⟩ (by first | omega | (simp; omega))).trans hHeld.2⟩
            clear hK K hHeld
            have hHeld := hHeld2
            clear hHeld2
            (try simp only [Act.put, List.setIfInBounds_toArray, List.set_cons_zero, List.set_cons_succ])
            have B2 := B1.alloc (by omega) (.cells #[.int .i64 (x : Int), .int .i64 (y : Int)] 40)
            refine wpAnyH_ready (rs := [13]) (by kernel_rfl) (by simp) ?_
            refine reg_each (o := _) rfl (fun K hK => ?_) ?_
            · skip
              refine step_append_lies _ (by rfl) _ _ _ (by rfl) w4.heap.size 40 i0 _ 2 16 Tryd.underlying22 hi0 hz0 hz1 hz2 rfl (by omega) v1 _ _ (by rfl) (own1.alloc _) ⟨W1.heap.size, 0, none⟩ 1 1 [.int .i64 (x : Int), .int .i64 (y : Int)] (by rfl) (by rfl) (World.news_of_block (cs := #[.int .i64 (x : Int), .int .i64 (y : Int)]) (t := 40) (fr := (0, 0)) (heap_alloc_new W1 _)) (by simp [Value.oneCell']) (by omega) (by simp only [maxLen]; omega) (by omega) (by first | omega | (simp; omega)) (W1.heap.size + 1) (by simp) ?_
              intro gg cap' W3 own3 gr3 at3 lt3
              refine hK.out _ _ ?_ (fun hHeld2 => ?_)
              · exact ⟨(gr3.cell_far ⟨go, oo + p, none⟩ (by first | omega | (simp; omega)) (hfar0 _ (by first | omega | (simp; omega)))).trans hHeld.1, (gr3.cell_far ⟨go, oo + q, none⟩ (by first | omega | (simp; omega)) (hfar0 _ (by first | omega | (simp; omega)))).trans hHeld.2⟩
              clear hK K hHeld
              have hHeld := hHeld2
              clear hHeld2
              (try simp only [Act.put, List.setIfInBounds_toArray, List.set_cons_zero, List.set_cons_succ])
              have B3 := below_grown B2 gr3 (fun k e => (own1.lt k e).1) (by first | omega | (simp; omega))
              refine reg_take (i := 14) (oi := _) (v := ?_) rfl (by kernel_rfl) (by kernel_rfl) (by kernel_rfl) (fun _ _ _ h => h) (by rfl) ?_ (by assumption) ?_
              rotate_left
              · intro w hSw; (try dsimp only at hSw); obtain ⟨c0, c1⟩ := hSw; go_simp; try with_reducible rfl
              (try simp only [Act.put, List.setIfInBounds_toArray, List.set_cons_zero, List.set_cons_succ])
              refine wpAnyH_done (by kernel_rfl) ?_ _
              refine NoPanic.normal ?_
              rw [← cells2_snoc] at own3
              have hl3 : (E ++ [(x, y)]).length = E.length + 1 := by simp
              rw [← hl3] at own3
              have hp3 := Pairs.of_owns2 own3 (by rw [hl3]; omega)
              rw [hl3] at hp3
              have HO := Lib.hid hp3
              have HB3 := Lib.hid B3
              clear own3 own1 gr3 gr1 hp3
              go_wp2
              go_meet
              case rel => exact ⟨HO.out, HB3.out⟩
            exact AllReadyH.nil
          exact AllReadyH.nil
        refine reg_each (o := _) rfl (fun K hK => ?_) ?_
        · skip
          go_simp
          refine hK.out _ _ ?_ (fun hHeld2 => ?_)
          · exact ⟨(World.cell?_alloc_lt _ _ ⟨go, oo + p, none⟩ (by first | omega | (simp; omega))).trans hHeld.1, (World.cell?_alloc_lt _ _ ⟨go, oo + q, none⟩ (by first | omega | (simp; omega))).trans hHeld.2⟩
          clear hK K hHeld
          have hHeld := hHeld2
          clear hHeld2
          (try simp only [Act.put, List.setIfInBounds_toArray, List.set_cons_zero, List.set_cons_succ])
          have B1 := B0d.alloc (Nat.le_refl _) (.cells #[.int .i64 (x : Int), .int .i64 (y : Int)] 40)
          refine wpAnyH_ready (rs := [2]) (by kernel_rfl) (by simp) ?_
          refine reg_each (o := _) rfl (fun K hK => ?_) ?_
          · skip
            refine step_append_ways rfl _ _ (by rfl) w4.heap.size (.slice none 0 0) [] E A cap (by rfl) (by rfl) (World.ownsRow_nil _ _ _ _) (HPd.below (below_al (Below.refl _ _) _)) (by first | omega | (simp; omega)) (by simp; try omega) hAc ?_
            intro v1 W1 own1 gr1 at1
            rw [List.nil_append] at own1
            refine hK.out _ _ ?_ (fun hHeld2 => ?_)
            · exact ⟨(gr1.cell_far ⟨go, oo + p, none⟩ (by first | omega | (simp; omega)) (by simp [Value.ownBlock])).trans hHeld.1, (gr1.cell_far ⟨go, oo + q, none⟩ (by first | omega | (simp; omega)) (by simp [Value.ownBlock])).trans hHeld.2⟩
            clear hK K hHeld
            have hHeld := hHeld2
            clear hHeld2
            (try simp only [Act.put, List.setIfInBounds_toArray, List.set_cons_zero, List.set_cons_succ])
            have hs1 : w4.heap.size + 1 ≤ W1.heap.size := by have := gr1.size; simpa using this
            have B2 := below_grown B1 gr1 (fun k e => by simp [Value.ownBlock] at e) (by simp)
            have hfar0 : ∀ k, k < w4.heap.size → some k ≠ v1.ownBlock := fun k hk e => by have := (own1.lt k e.symm).1; omega
            have hbx : Blk W1 w4.heap.size 40 #[.int .i64 (x : Int), .int .i64 (y : Int)] := (gr1.block _ (by simp) (by simp [Value.ownBlock])).trans (Blk.new w4.drew 40 _)
            refine wpAnyH_ready (rs := [13]) (by kernel_rfl) (by simp) ?_
            refine reg_each (o := _) rfl (fun K hK => ?_) ?_
            · skip
              refine step_append_lies _ (by rfl) _ _ _ (by rfl) w4.heap.size 40 i0 _ 2 16 Tryd.underlying22 hi0 hz0 hz1 hz2 rfl (by omega) v1 _ _ (by rfl) own1 ⟨w4.heap.size, 0, none⟩ 1 1 [.int .i64 (x : Int), .int .i64 (y : Int)] (by rfl) (by rfl) (World.news_of_block (cs := #[.int .i64 (x : Int), .int .i64 (y : Int)]) (t := 40) (fr := (0, 0)) hbx) (by simp [Value.oneCell']) (by omega) (by simp only [maxLen]; omega) (by omega) (by first | omega | (simp; omega)) (W1.heap.size) (by simp) ?_
              intro gg cap' W3 own3 gr3 at3 lt3
              refine hK.out _ _ ?_ (fun hHeld2 => ?_)
              · exact ⟨(gr3.cell_far ⟨go, oo + p, none⟩ (by first | omega | (simp; omega)) (hfar0 _ (by first | omega | (simp; omega)))).trans hHeld.1, (gr3.cell_far ⟨go, oo + q, none⟩ (by first | omega | (simp; omega)) (hfar0 _ (by first | omega | (simp; omega)))).trans hHeld.2⟩
              clear hK K hHeld
              have hHeld := hHeld2
              clear hHeld2
              (try simp only [Act.put, List.setIfInBounds_toArray, List.set_cons_zero, List.set_cons_succ])
              have B3 := below_grown B2 gr3 (fun k e => (own1.lt k e).1) (by first | omega | (simp; omega))
              refine reg_take (i := 14) (oi := _) (v := ?_) rfl (by kernel_rfl) (by kernel_rfl) (by kernel_rfl) (fun _ _ _ h => h) (by rfl) ?_ (by assumption) ?_
              rotate_left
              · intro w hSw; (try dsimp only at hSw); obtain ⟨c0, c1⟩ := hSw; go_simp; try with_reducible rfl
              (try simp only [Act.put, List.setIfInBounds_toArray, List.set_cons_zero, List.set_cons_succ])
              refine wpAnyH_done (by kernel_rfl) ?_ _
              refine NoPanic.normal ?_
              rw [← cells2_snoc] at own3
              have hl3 : (E ++ [(x, y)]).length = E.length + 1 := by simp
              rw [← hl3] at own3
              have hp3 := Pairs.of_owns2 own3 (by rw [hl3]; omega)
              rw [hl3] at hp3
              have HO := Lib.hid hp3
              have HB3 := Lib.hid B3
              clear own3 own1 gr3 gr1 hp3
              go_wp2
              go_meet
              case rel => exact ⟨HO.out, HB3.out⟩
            exact AllReadyH.nil
          exact AllReadyH.nil
        exact AllReadyH.nil
      case rest =>
        obtain ⟨hmore, Bm⟩ := hcut
        obtain ⟨w5, hw5⟩ : ∃ W : World, W = wc := ⟨_, rfl⟩
        subst hw5
        have B15 := below_trans B14 Bm
        have HSB := Lib.hid (snoc_bound HE.out hxn hyn)
        have hEl2 : (E ++ [(x, y)]).length ≤ 81 := by rw [List.length_append, HLEN.out]; simp; omega
        have OO3 := Lib.hid (order_ok n u11 (E ++ [(x, y)]) w5 hmore HSB.out (by omega) (by omega))
        have cx5 := (Bm.cell (p := ⟨go, oo + p, none⟩) zgo4).trans cx
        have zgo5 : go < w5.heap.size := Nat.lt_of_lt_of_le zgo4 Bm.size
        clear hmore hEl2 HC4 cx cy zgo4 B14 Bm
        go_wp2_with (fail)
        refine OO3.out.mono ?_
        rintro z w6 ⟨⟨o2, dep2, hso2, hr2⟩, B6⟩
        have hful2 := hso2.full HSB.out
        have cx6 := (B6.cell (p := ⟨go, oo + p, none⟩) zgo5).trans cx5
        have zgo6 : go < w6.heap.size := Nat.lt_of_lt_of_le zgo5 B6.size
        have B16 := below_trans B15 B6
        clear hso2 cx5 zgo5 B15 B6 OO3
        rcases Nat.lt_or_ge p q with hlt | hge
        · have hac := snoc_acyc HSO.out.gre HOL.out HE.out hlt HX.out HY.out
          have hol2 := hful2.2 hac
          rcases hr2 with ⟨_, ov2, rfl, _⟩ | ⟨h, _⟩
          rotate_left
          · exact absurd hol2 h
          have d1 : decide ((p : Int) < (q : Int)) = true := decide_eq_true (by omega)
          have d2 : ((p : Int) == (q : Int)) = false := by rw [beq_eq_false_iff_ne]; omega
          have d3 : (p == q) = false := by rw [beq_eq_false_iff_ne]; omega
          clear hac hol2 hful2 HX HY HSB
          go_upto_region 14 with (fail)
          have BB := B16
          clear B16
          have RO2 := Lib.hid (RO.out x w6 (HL.out.below BB) hxn)
          go_wp2_with (fail)
          refine RO2.out.mono ?_
          rintro z w8 ⟨seen, pv, hs1, rfl, hp, B8⟩
          have hfl := filt_len seen n
          have HSF := Lib.hid (fun y hy => (hs1 y).1 (List.mem_filter.1 (show y ∈ (List.range n).filter seen from hy)).2)
          have HSN := Lib.hid (fun y hy => List.mem_range.1 (List.mem_filter.1 (show y ∈ (List.range n).filter seen from hy)).1)
          obtain ⟨A1, c1p, rfl, hL1⟩ := (Reads.of_owns hp).form
          generalize (List.range n).filter seen = L1 at *
          have HL1 := Lib.hid hL1
          have cx8 := (B8.cell (p := ⟨go, oo + p, none⟩) zgo6).trans cx6
          have zgo8 : go < w8.heap.size := Nat.lt_of_lt_of_le zgo6 B8.size
          have B18 := below_trans BB B8
          clear hs1 hp hL1 RO2 RO BB B8 cx6 zgo6
          go_upto_region 18 with (fail)
          go_loopw [16] (fun iv wr => ∃ i : Nat, iv = .int .i64 i ∧ i ≤ L1.length ∧ Below w8.heap.size w8 wr) (fun iv _ => L1.length - (intOf iv).toNat)
          case atStart => exact ⟨0, rfl, Nat.zero_le _, Below.refl _ _⟩
          case round =>
            obtain ⟨i, rfl, hi, Br⟩ := hrel
            by_cases hil : i < L1.length
            · have d7 : decide ((i : Int) < (L1.length : Int)) = true := decide_eq_true (by omega)
              obtain ⟨gr, og, rfl, hc⟩ := HL1.out (by omega)
              have hci := hc i hil
              have zgr : gr < w8.heap.size := World.block_lt_of_cell? w8 _ hci
              have hmemL : L1.getD i 0 ∈ L1 := by rw [List.getD_eq_getElem?_getD, List.getElem?_eq_getElem hil]; exact List.getElem_mem _
              have HRY := Lib.hid (HSF.out _ hmemL)
              have hyn2 := HSN.out _ hmemL
              have cy8 := (Br.cell (p := ⟨gr, og + i, none⟩) zgr).trans hci
              have cx9 := (Br.cell (p := ⟨go, oo + p, none⟩) zgo8).trans cx8
              have zgr9 : gr < wr.heap.size := Nat.lt_of_lt_of_le zgr Br.size
              have zgo9 : go < wr.heap.size := Nat.lt_of_lt_of_le zgo8 Br.size
              generalize L1.getD i 0 = t at *
              have i0p : (0 : Int) ≤ (i : Int) := by omega
              have i1p : (i : Int) < (L1.length : Int) := by omega
              have B19 := below_trans B18 Br
              obtain ⟨w9, hw9⟩ : ∃ W : World, W = wr := ⟨_, rfl⟩
              subst hw9
              clear hc hci hmemL
              go_upto_region 21 with (fail)
              go_cut [17] from 129 to 142 (fun mv wx => Pairs wx mv (castE (E ++ [(t, x)])) ∧ Below w9.heap.size w9 wx)
              case first =>
                have HPd : Pairs w9.drew (.slice A E.length cap) (castE E) := by rw [HLEN.out]; exact HL.out.below (below_drewN B19 1)
                have B0d : Below w9.heap.size w9 w9.drew := below_drewN (Below.refl _ _) 1
                have hAc := HAc.out
                have hEl : E.length ≤ 80 := by rw [HLEN.out]; exact hm
                have c0 := cy8
                have c1 := cx9
                have c0' := HLEN.out
                subst c0'
                clear HLEN HL HG HE SW HSO HOL B19 B18 cx8 cy8 cx9 HL1 HSF HSN HRY Br
                refine wp_region_noPanic ?_
                refine wp_region_held_drew (S := (fun w' => w'.cell? ⟨gr, og + i, none⟩ = some (.int .i64 (t : Int)) ∧ w'.cell? ⟨go, oo + p, none⟩ = some (.int .i64 (x : Int)))) (by kernel_rfl) ?_ (fun hHeld => ?_)
                · exact ⟨c0, c1⟩
                refine reg_take (i := 0) (oi := _) (v := ?_) rfl (by kernel_rfl) (by kernel_rfl) (by kernel_rfl) (fun _ _ _ h => h) (by rfl) ?_ (by assumption) ?_
                rotate_left
                · intro w hSw; (try dsimp only at hSw); obtain ⟨c0, c1⟩ := hSw; go_simp; try with_reducible rfl
                (try simp only [Act.put, List.setIfInBounds_toArray, List.set_cons_zero, List.set_cons_succ])
                refine reg_take (i := 1) (oi := _) (v := ?_) rfl (by kernel_rfl) (by kernel_rfl) (by kernel_rfl) (fun _ _ _ h => h) (by rfl) ?_ (by assumption) ?_
                rotate_left
                · intro w hSw; (try dsimp only at hSw); obtain ⟨c0, c1⟩ := hSw; go_simp; try with_reducible rfl
                (try simp only [Act.put, List.setIfInBounds_toArray, List.set_cons_zero, List.set_cons_succ])
                refine reg_take (i := 3) (oi := _) (v := ?_) rfl (by kernel_rfl) (by kernel_rfl) (by kernel_rfl) (fun _ _ _ h => h) (by rfl) ?_ (by assumption) ?_
                rotate_left
                · intro w hSw; (try dsimp only at hSw); obtain ⟨c0, c1⟩ := hSw; go_simp; try with_reducible rfl
                (try simp only [Act.put, List.setIfInBounds_toArray, List.set_cons_zero, List.set_cons_succ])
                refine reg_take (i := 4) (oi := _) (v := ?_) rfl (by kernel_rfl) (by kernel_rfl) (by kernel_rfl) (fun _ _ _ h => h) (by rfl) ?_ (by assumption) ?_
                rotate_left
                · intro w hSw; (try dsimp only at hSw); obtain ⟨c0, c1⟩ := hSw; go_simp; try with_reducible rfl
                (try simp only [Act.put, List.setIfInBounds_toArray, List.set_cons_zero, List.set_cons_succ])
                refine reg_take (i := 5) (oi := _) (v := ?_) rfl (by kernel_rfl) (by kernel_rfl) (by kernel_rfl) (fun _ _ _ h => h) (by rfl) ?_ (by assumption) ?_
                rotate_left
                · intro w hSw; (try dsimp only at hSw); obtain ⟨c0, c1⟩ := hSw; go_simp; try with_reducible rfl
                (try simp only [Act.put, List.setIfInBounds_toArray, List.set_cons_zero, List.set_cons_succ])
                refine reg_take (i := 6) (oi := _) (v := ?_) rfl (by kernel_rfl) (by kernel_rfl) (by kernel_rfl) (fun _ _ _ h => h) (by rfl) ?_ (by assumption) ?_
                rotate_left
                · intro w hSw; (try dsimp only at hSw); obtain ⟨c0, c1⟩ := hSw; go_simp; try with_reducible rfl
                (try simp only [Act.put, List.setIfInBounds_toArray, List.set_cons_zero, List.set_cons_succ])
                refine reg_take (i := 7) (oi := _) (v := ?_) rfl (by kernel_rfl) (by kernel_rfl) (by kernel_rfl) (fun _ _ _ h => h) (by rfl) ?_ (by assumption) ?_
                rotate_left
                · intro w hSw; (try dsimp only at hSw); obtain ⟨c0, c1⟩ := hSw; go_simp; try with_reducible rfl
                (try simp only [Act.put, List.setIfInBounds_toArray, List.set_cons_zero, List.set_cons_succ])
                refine reg_take (i := 8) (oi := _) (v := ?_) rfl (by kernel_rfl) (by kernel_rfl) (by kernel_rfl) (fun _ _ _ h => h) (by rfl) ?_ (by assumption) ?_
                rotate_left
                · intro w hSw; (try dsimp only at hSw); obtain ⟨c0, c1⟩ := hSw; go_simp; try with_reducible rfl
                (try simp only [Act.put, List.setIfInBounds_toArray, List.set_cons_zero, List.set_cons_succ])
                refine reg_take (i := 9) (oi := _) (v := ?_) rfl (by kernel_rfl) (by kernel_rfl) (by kernel_rfl) (fun _ _ _ h => h) (by rfl) ?_ (by assumption) ?_
                rotate_left
                · intro w hSw; (try dsimp only at hSw); obtain ⟨c0, c1⟩ := hSw; go_simp; try with_reducible rfl
                (try simp only [Act.put, List.setIfInBounds_toArray, List.set_cons_zero, List.set_cons_succ])
                refine reg_take (i := 10) (oi := _) (v := ?_) rfl (by kernel_rfl) (by kernel_rfl) (by kernel_rfl) (fun _ _ _ h => h) (by rfl) ?_ (by assumption) ?_
                rotate_left
                · intro w hSw; (try dsimp only at hSw); obtain ⟨c0, c1⟩ := hSw; go_simp; try with_reducible rfl
                (try simp only [Act.put, List.setIfInBounds_toArray, List.set_cons_zero, List.set_cons_succ])
                refine reg_take (i := 11) (oi := _) (v := ?_) rfl (by kernel_rfl) (by kernel_rfl) (by kernel_rfl) (fun _ _ _ h => h) (by rfl) ?_ (by assumption) ?_
                rotate_left
                · intro w hSw; (try dsimp only at hSw); obtain ⟨c0, c1⟩ := hSw; go_simp; try with_reducible rfl
                (try simp only [Act.put, List.setIfInBounds_toArray, List.set_cons_zero, List.set_cons_succ])
                refine wpAnyH_ready (rs := [2, 12]) (by kernel_rfl) (by simp) ?_
                refine reg_each (o := _) rfl (fun K hK => ?_) ?_
                · skip
                  refine step_append_ways rfl _ _ (by rfl) w9.heap.size (.slice none 0 0) [] E A cap (by rfl) (by rfl) (World.ownsRow_nil _ _ _ _) (HPd) (by first | omega | (simp; omega)) (by simp; try omega) hAc ?_
                  intro v1 W1 own1 gr1 at1
                  rw [List.nil_append] at own1
                  refine hK.out _ _ ?_ (fun hHeld2 => ?_)
                  · exact ⟨(gr1.cell_far ⟨gr, og + i, none⟩ (by first | omega | (simp; omega)) (by simp [Value.ownBlock])).trans hHeld.1, (gr1.cell_far ⟨go, oo + p, none⟩ (by first | omega | (simp; omega)) (by simp [Value.ownBlock])).trans hHeld.2⟩
                  clear hK K hHeld
                  have hHeld := hHeld2
                  clear hHeld2
                  (try simp only [Act.put, List.setIfInBounds_toArray, List.set_cons_zero, List.set_cons_succ])
                  have hs1 : w9.heap.size ≤ W1.heap.size := gr1.size
                  have B1 := below_grown B0d gr1 (fun k e => by simp [Value.ownBlock] at e) (by simp)
                  have hfar0 : ∀ k, k < w9.heap.size → some k ≠ v1.ownBlock := fun k hk e => by have := (own1.lt k e.symm).1; omega
                  refine wpAnyH_ready (rs := [12]) (by kernel_rfl) (by simp) ?_
                  refine reg_each (o := _) rfl (fun K hK => ?_) ?_
                  · skip
                    go_simp
                    refine hK.out _ _ ?_ (fun hHeld2 => ?_)
                    · exact ⟨(World.cell?_alloc_lt _ _ ⟨gr, og + i, none⟩ (by first | omega | (simp; omega))).trans hHeld.1, (World.cell?_alloc_lt _ _ ⟨go, oo + p, none⟩ (by first | omega | (simp; omega))).trans hHeld.2⟩
                    clear hK K hHeld
                    have hHeld := hHeld2
                    clear hHeld2
                    (try simp only [Act.put, List.setIfInBounds_toArray, List.set_cons_zero, List.set_cons_succ])
                    have B2 := B1.alloc (by omega) (.cells #[.int .i64 (t : Int), .int .i64 (x : Int)] 40)
                    refine wpAnyH_ready (rs := [13]) (by kernel_rfl) (by simp) ?_
                    refine reg_each (o := _) rfl (fun K hK => ?_) ?_
                    · skip
                      refine step_append_lies _ (by rfl) _ _ _ (by rfl) w9.heap.size 40 i0 _ 2 16 Tryd.underlying22 hi0 hz0 hz1 hz2 rfl (by omega) v1 _ _ (by rfl) (own1.alloc _) ⟨W1.heap.size, 0, none⟩ 1 1 [.int .i64 (t : Int), .int .i64 (x : Int)] (by rfl) (by rfl) (World.news_of_block (cs := #[.int .i64 (t : Int), .int .i64 (x : Int)]) (t := 40) (fr := (0, 0)) (heap_alloc_new W1 _)) (by simp [Value.oneCell']) (by omega) (by simp only [maxLen]; omega) (by omega) (by first | omega | (simp; omega)) (W1.heap.size + 1) (by simp) ?_
                      intro gg cap' W3 own3 gr3 at3 lt3
                      refine hK.out _ _ ?_ (fun hHeld2 => ?_)
                      · exact ⟨(gr3.cell_far ⟨gr, og + i, none⟩ (by first | omega | (simp; omega)) (hfar0 _ (by first | omega | (simp; omega)))).trans hHeld.1, (gr3.cell_far ⟨go, oo + p, none⟩ (by first | omega | (simp; omega)) (hfar0 _ (by first | omega | (simp; omega)))).trans hHeld.2⟩
                      clear hK K hHeld
                      have hHeld := hHeld2
                      clear hHeld2
                      (try simp only [Act.put, List.setIfInBounds_toArray, List.set_cons_zero, List.set_cons_succ])
                      have B3 := below_grown B2 gr3 (fun k e => (own1.lt k e).1) (by first | omega | (simp; omega))
                      refine reg_take (i := 14) (oi := _) (v := ?_) rfl (by kernel_rfl) (by kernel_rfl) (by kernel_rfl) (fun _ _ _ h => h) (by rfl) ?_ (by assumption) ?_
                      rotate_left
                      · intro w hSw; (try dsimp only at hSw); obtain ⟨c0, c1⟩ := hSw; go_simp; try with_reducible rfl
                      (try simp only [Act.put, List.setIfInBounds_toArray, List.set_cons_zero, List.set_cons_succ])
                      refine wpAnyH_done (by kernel_rfl) ?_ _
                      refine NoPanic.normal ?_
                      rw [← cells2_snoc] at own3
                      have hl3 : (E ++ [(t, x)]).length = E.length + 1 := by simp
                      rw [← hl3] at own3
                      have hp3 := Pairs.of_owns2 own3 (by rw [hl3]; omega)
                      rw [hl3] at hp3
                      have HO := Lib.hid hp3
                      have HB3 := Lib.hid B3
                      clear own3 own1 gr3 gr1 hp3
                      go_wp2
                      go_meet
                      case rel => exact ⟨HO.out, HB3.out⟩
                    exact AllReadyH.nil
                  exact AllReadyH.nil
                refine reg_each (o := _) rfl (fun K hK => ?_) ?_
                · skip
                  go_simp
                  refine hK.out _ _ ?_ (fun hHeld2 => ?_)
                  · exact ⟨(World.cell?_alloc_lt _ _ ⟨gr, og + i, none⟩ (by first | omega | (simp; omega))).trans hHeld.1, (World.cell?_alloc_lt _ _ ⟨go, oo + p, none⟩ (by first | omega | (simp; omega))).trans hHeld.2⟩
                  clear hK K hHeld
                  have hHeld := hHeld2
                  clear hHeld2
                  (try simp only [Act.put, List.setIfInBounds_toArray, List.set_cons_zero, List.set_cons_succ])
                  have B1 := B0d.alloc (Nat.le_refl _) (.cells #[.int .i64 (t : Int), .int .i64 (x : Int)] 40)
                  refine wpAnyH_ready (rs := [2]) (by kernel_rfl) (by simp) ?_
                  refine reg_each (o := _) rfl (fun K hK => ?_) ?_
                  · skip
                    refine step_append_ways rfl _ _ (by rfl) w9.heap.size (.slice none 0 0) [] E A cap (by rfl) (by rfl) (World.ownsRow_nil _ _ _ _) (HPd.below (below_al (Below.refl _ _) _)) (by first | omega | (simp; omega)) (by simp; try omega) hAc ?_
                    intro v1 W1 own1 gr1 at1
                    rw [List.nil_append] at own1
                    refine hK.out _ _ ?_ (fun hHeld2 => ?_)
                    · exact ⟨(gr1.cell_far ⟨gr, og + i, none⟩ (by first | omega | (simp; omega)) (by simp [Value.ownBlock])).trans hHeld.1, (gr1.cell_far ⟨go, oo + p, none⟩ (by first | omega | (simp; omega)) (by simp [Value.ownBlock])).trans hHeld.2⟩
                    clear hK K hHeld
                    have hHeld := hHeld2
                    clear hHeld2
                    (try simp only [Act.put, List.setIfInBounds_toArray, List.set_cons_zero, List.set_cons_succ])
                    have hs1 : w9.heap.size + 1 ≤ W1.heap.size := by have := gr1.size; simpa using this
                    have B2 := below_grown B1 gr1 (fun k e => by simp [Value.ownBlock] at e) (by simp)
                    have hfar0 : ∀ k, k < w9.heap.size → some k ≠ v1.ownBlock := fun k hk e => by have := (own1.lt k e.symm).1; omega
                    have hbx : Blk W1 w9.heap.size 40 #[.int .i64 (t : Int), .int .i64 (x : Int)] := (gr1.block _ (by simp) (by simp [Value.ownBlock])).trans (Blk.new w9.drew 40 _)
                    refine wpAnyH_ready (rs := [13]) (by kernel_rfl) (by simp) ?_
                    refine reg_each (o := _) rfl (fun K hK => ?_) ?_
                    · skip
                      refine step_append_lies _ (by rfl) _ _ _ (by rfl) w9.heap.size 40 i0 _ 2 16 Tryd.underlying22 hi0 hz0 hz1 hz2 rfl (by omega) v1 _ _ (by rfl) own1 ⟨w9.heap.size, 0, none⟩ 1 1 [.int .i64 (t : Int), .int .i64 (x : Int)] (by rfl) (by rfl) (World.news_of_block (cs := #[.int .i64 (t : Int), .int .i64 (x : Int)]) (t := 40) (fr := (0, 0)) hbx) (by simp [Value.oneCell']) (by omega) (by simp only [maxLen]; omega) (by omega) (by first | omega | (simp; omega)) (W1.heap.size) (by simp) ?_
                      intro gg cap' W3 own3 gr3 at3 lt3
                      refine hK.out _ _ ?_ (fun hHeld2 => ?_)
                      · exact ⟨(gr3.cell_far ⟨gr, og + i, none⟩ (by first | omega | (simp; omega)) (hfar0 _ (by first | omega | (simp; omega)))).trans hHeld.1, (gr3.cell_far ⟨go, oo + p, none⟩ (by first | omega | (simp; omega)) (hfar0 _ (by first | omega | (simp; omega)))).trans hHeld.2⟩
                      clear hK K hHeld
                      have hHeld := hHeld2
                      clear hHeld2
                      (try simp only [Act.put, List.setIfInBounds_toArray, List.set_cons_zero, List.set_cons_succ])
                      have B3 := below_grown B2 gr3 (fun k e => (own1.lt k e).1) (by first | omega | (simp; omega))
                      refine reg_take (i := 14) (oi := _) (v := ?_) rfl (by kernel_rfl) (by kernel_rfl) (by kernel_rfl) (fun _ _ _ h => h) (by rfl) ?_ (by assumption) ?_
                      rotate_left
                      · intro w hSw; (try dsimp only at hSw); obtain ⟨c0, c1⟩ := hSw; go_simp; try with_reducible rfl
                      (try simp only [Act.put, List.setIfInBounds_toArray, List.set_cons_zero, List.set_cons_succ])
                      refine wpAnyH_done (by kernel_rfl) ?_ _
                      refine NoPanic.normal ?_
                      rw [← cells2_snoc] at own3
                      have hl3 : (E ++ [(t, x)]).length = E.length + 1 := by simp
                      rw [← hl3] at own3
                      have hp3 := Pairs.of_owns2 own3 (by rw [hl3]; omega)
                      rw [hl3] at hp3
                      have HO := Lib.hid hp3
                      have HB3 := Lib.hid B3
                      clear own3 own1 gr3 gr1 hp3
                      go_wp2
                      go_meet
                      case rel => exact ⟨HO.out, HB3.out⟩
                    exact AllReadyH.nil
                  exact AllReadyH.nil
                exact AllReadyH.nil
              case rest =>
                obtain ⟨hmore, Bm⟩ := hcut
                obtain ⟨wA, hwA⟩ : ∃ W : World, W = wc := ⟨_, rfl⟩
                subst hwA
                have HSB := Lib.hid (snoc_bound HE.out hyn2 hxn)
                have hEl2 : (E ++ [(t, x)]).length ≤ 81 := by rw [List.length_append, HLEN.out]; simp; omega
                have LO := Lib.hid (loop_ok n u17 (E ++ [(t, x)]) wA hmore HSB.out (by omega) (by omega))
                clear hmore hEl2
                go_wp2_with (fail)
                refine LO.out.mono ?_
                intro z wB hs
                obtain ⟨k, is, hki, rfl, BB⟩ := hs.is
                obtain rfl : is = true := cycle_is HSB.out HRY.out hki
                have BC := Br.trans ((below_trans Bm BB).mono Br.size)
                clear hs hki LO
                go_wp2
                go_roundw
                case rel => exact ⟨i + 1, by go_num, by omega, BC⟩
                case measure => simp [intOf]; omega
            · have d7 : decide ((i : Int) < (L1.length : Int)) = false := decide_eq_false (by omega)
              have BC := below_trans B18 Br
              go_wp2_with (fail)
              refine (SW.out _).mono ?_
              rintro z wD ⟨rfl, BD⟩
              have B := below_trans BC BD
              go_wp2
              go_ret
              exact ⟨rfl, B⟩
        · obtain rfl : p = q := by omega
          obtain rfl : x = y := by have := HX.out.symm.trans HY.out; exact Option.some.inj this
          have hol2 : o2.length ≠ n := fun h => snoc_self E x (hful2.1 h)
          rcases hr2 with ⟨h, _⟩ | ⟨_, rfl⟩
          · exact absurd h hol2
          have NH := Lib.hid (num_hit 9 w6 (HG.out.below B16))
          clear hol2 hful2 HX HY HSB
          go_wp2_with (fail)
          refine NH.out.mono ?_
          rintro z w7 ⟨rfl, B7⟩
          have cx7 := (B7.cell (p := ⟨go, oo + p, none⟩) zgo6).trans cx6
          have zgo7 : go < w7.heap.size := Nat.lt_of_lt_of_le zgo6 B7.size
          have B17 := below_trans B16 B7
          clear cx6 zgo6 B16 B7 NH
          go_upto_region 14 with (fail)
          have BB := B17
          clear B17
          have RO2 := Lib.hid (RO.out x w7 (HL.out.below BB) hxn)
          go_wp2_with (fail)
          refine RO2.out.mono ?_
          rintro z w8 ⟨seen, pv, hs1, rfl, hp, B8⟩
          have hfl := filt_len seen n
          have HSF := Lib.hid (fun y hy => (hs1 y).1 (List.mem_filter.1 (show y ∈ (List.range n).filter seen from hy)).2)
          have HSN := Lib.hid (fun y hy => List.mem_range.1 (List.mem_filter.1 (show y ∈ (List.range n).filter seen from hy)).1)
          obtain ⟨A1, c1p, rfl, hL1⟩ := (Reads.of_owns hp).form
          generalize (List.range n).filter seen = L1 at *
          have HL1 := Lib.hid hL1
          have cx8 := (B8.cell (p := ⟨go, oo + p, none⟩) zgo7).trans cx7
          have zgo8 : go < w8.heap.size := Nat.lt_of_lt_of_le zgo7 B8.size
          have B18 := below_trans BB B8
          clear hs1 hp hL1 RO2 RO BB B8 cx7 zgo7
          go_upto_region 18 with (fail)
          go_loopw [16] (fun iv wr => ∃ i : Nat, iv = .int .i64 i ∧ i ≤ L1.length ∧ Below w8.heap.size w8 wr) (fun iv _ => L1.length - (intOf iv).toNat)
          case atStart => exact ⟨0, rfl, Nat.zero_le _, Below.refl _ _⟩
          case round =>
            obtain ⟨i, rfl, hi, Br⟩ := hrel
            by_cases hil : i < L1.length
            · have d7 : decide ((i : Int) < (L1.length : Int)) = true := decide_eq_true (by omega)
              obtain ⟨gr, og, rfl, hc⟩ := HL1.out (by omega)
              have hci := hc i hil
              have zgr : gr < w8.heap.size := World.block_lt_of_cell? w8 _ hci
              have hmemL : L1.getD i 0 ∈ L1 := by rw [List.getD_eq_getElem?_getD, List.getElem?_eq_getElem hil]; exact List.getElem_mem _
              have HRY := Lib.hid (HSF.out _ hmemL)
              have hyn2 := HSN.out _ hmemL
              have cy8 := (Br.cell (p := ⟨gr, og + i, none⟩) zgr).trans hci
              have cx9 := (Br.cell (p := ⟨go, oo + p, none⟩) zgo8).trans cx8
              have zgr9 : gr < wr.heap.size := Nat.lt_of_lt_of_le zgr Br.size
              have zgo9 : go < wr.heap.size := Nat.lt_of_lt_of_le zgo8 Br.size
              generalize L1.getD i 0 = t at *
              have i0p : (0 : Int) ≤ (i : Int) := by omega
              have i1p : (i : Int) < (L1.length : Int) := by omega
              have B19 := below_trans B18 Br
              obtain ⟨w9, hw9⟩ : ∃ W : World, W = wr := ⟨_, rfl⟩
              subst hw9
              clear hc hci hmemL
              go_upto_region 21 with (fail)
              go_cut [17] from 129 to 142 (fun mv wx => Pairs wx mv (castE (E ++ [(t, x)])) ∧ Below w9.heap.size w9 wx)
              case first =>
                have HPd : Pairs w9.drew (.slice A E.length cap) (castE E) := by rw [HLEN.out]; exact HL.out.below (below_drewN B19 1)
                have B0d : Below w9.heap.size w9 w9.drew := below_drewN (Below.refl _ _) 1
                have hAc := HAc.out
                have hEl : E.length ≤ 80 := by rw [HLEN.out]; exact hm
                have c0 := cy8
                have c1 := cx9
                have c0' := HLEN.out
                subst c0'
                clear HLEN HL HG HE SW HSO HOL B19 B18 cx8 cy8 cx9 HL1 HSF HSN HRY Br
                refine wp_region_noPanic ?_
                refine wp_region_held_drew (S := (fun w' => w'.cell? ⟨gr, og + i, none⟩ = some (.int .i64 (t : Int)) ∧ w'.cell? ⟨go, oo + p, none⟩ = some (.int .i64 (x : Int)))) (by kernel_rfl) ?_ (fun hHeld => ?_)
                · exact ⟨c0, c1⟩
                refine reg_take (i := 0) (oi := _) (v := ?_) rfl (by kernel_rfl) (by kernel_rfl) (by kernel_rfl) (fun _ _ _ h => h) (by rfl) ?_ (by assumption) ?_
                rotate_left
                · intro w hSw; (try dsimp only at hSw); obtain ⟨c0, c1⟩ := hSw; go_simp; try with_reducible rfl
                (try simp only [Act.put, List.setIfInBounds_toArray, List.set_cons_zero, List.set_cons_succ])
                refine reg_take (i := 1) (oi := _) (v := ?_) rfl (by kernel_rfl) (by kernel_rfl) (by kernel_rfl) (fun _ _ _ h => h) (by rfl) ?_ (by assumption) ?_
                rotate_left
                · intro w hSw; (try dsimp only at hSw); obtain ⟨c0, c1⟩ := hSw; go_simp; try with_reducible rfl
                (try simp only [Act.put, List.setIfInBounds_toArray, List.set_cons_zero, List.set_cons_succ])
                refine reg_take (i := 3) (oi := _) (v := ?_) rfl (by kernel_rfl) (by kernel_rfl) (by kernel_rfl) (fun _ _ _ h => h) (by rfl) ?_ (by assumption) ?_
                rotate_left
                · intro w hSw; (try dsimp only at hSw); obtain ⟨c0, c1⟩ := hSw; go_simp; try with_reducible rfl
                (try simp only [Act.put, List.setIfInBounds_toArray, List.set_cons_zero, List.set_cons_succ])
                refine reg_take (i := 4) (oi := _) (v := ?_) rfl (by kernel_rfl) (by kernel_rfl) (by kernel_rfl) (fun _ _ _ h => h) (by rfl) ?_ (by assumption) ?_
                rotate_left
                · intro w hSw; (try dsimp only at hSw); obtain ⟨c0, c1⟩ := hSw; go_simp; try with_reducible rfl
                (try simp only [Act.put, List.setIfInBounds_toArray, List.set_cons_zero, List.set_cons_succ])
                refine reg_take (i := 5) (oi := _) (v := ?_) rfl (by kernel_rfl) (by kernel_rfl) (by kernel_rfl) (fun _ _ _ h => h) (by rfl) ?_ (by assumption) ?_
                rotate_left
                · intro w hSw; (try dsimp only at hSw); obtain ⟨c0, c1⟩ := hSw; go_simp; try with_reducible rfl
                (try simp only [Act.put, List.setIfInBounds_toArray, List.set_cons_zero, List.set_cons_succ])
                refine reg_take (i := 6) (oi := _) (v := ?_) rfl (by kernel_rfl) (by kernel_rfl) (by kernel_rfl) (fun _ _ _ h => h) (by rfl) ?_ (by assumption) ?_
                rotate_left
                · intro w hSw; (try dsimp only at hSw); obtain ⟨c0, c1⟩ := hSw; go_simp; try with_reducible rfl
                (try simp only [Act.put, List.setIfInBounds_toArray, List.set_cons_zero, List.set_cons_succ])
                refine reg_take (i := 7) (oi := _) (v := ?_) rfl (by kernel_rfl) (by kernel_rfl) (by kernel_rfl) (fun _ _ _ h => h) (by rfl) ?_ (by assumption) ?_
                rotate_left
                · intro w hSw; (try dsimp only at hSw); obtain ⟨c0, c1⟩ := hSw; go_simp; try with_reducible rfl
                (try simp only [Act.put, List.setIfInBounds_toArray, List.set_cons_zero, List.set_cons_succ])
                refine reg_take (i := 8) (oi := _) (v := ?_) rfl (by kernel_rfl) (by kernel_rfl) (by kernel_rfl) (fun _ _ _ h => h) (by rfl) ?_ (by assumption) ?_
                rotate_left
                · intro w hSw; (try dsimp only at hSw); obtain ⟨c0, c1⟩ := hSw; go_simp; try with_reducible rfl
                (try simp only [Act.put, List.setIfInBounds_toArray, List.set_cons_zero, List.set_cons_succ])
                refine reg_take (i := 9) (oi := _) (v := ?_) rfl (by kernel_rfl) (by kernel_rfl) (by kernel_rfl) (fun _ _ _ h => h) (by rfl) ?_ (by assumption) ?_
                rotate_left
                · intro w hSw; (try dsimp only at hSw); obtain ⟨c0, c1⟩ := hSw; go_simp; try with_reducible rfl
                (try simp only [Act.put, List.setIfInBounds_toArray, List.set_cons_zero, List.set_cons_succ])
                refine reg_take (i := 10) (oi := _) (v := ?_) rfl (by kernel_rfl) (by kernel_rfl) (by kernel_rfl) (fun _ _ _ h => h) (by rfl) ?_ (by assumption) ?_
                rotate_left
                · intro w hSw; (try dsimp only at hSw); obtain ⟨c0, c1⟩ := hSw; go_simp; try with_reducible rfl
                (try simp only [Act.put, List.setIfInBounds_toArray, List.set_cons_zero, List.set_cons_succ])
                refine reg_take (i := 11) (oi := _) (v := ?_) rfl (by kernel_rfl) (by kernel_rfl) (by kernel_rfl) (fun _ _ _ h => h) (by rfl) ?_ (by assumption) ?_
                rotate_left
                · intro w hSw; (try dsimp only at hSw); obtain ⟨c0, c1⟩ := hSw; go_simp; try with_reducible rfl
                (try simp only [Act.put, List.setIfInBounds_toArray, List.set_cons_zero, List.set_cons_succ])
                refine wpAnyH_ready (rs := [2, 12]) (by kernel_rfl) (by simp) ?_
                refine reg_each (o := _) rfl (fun K hK => ?_) ?_
                · skip
                  refine step_append_ways rfl _ _ (by rfl) w9.heap.size (.slice none 0 0) [] E A cap (by rfl) (by rfl) (World.ownsRow_nil _ _ _ _) (HPd) (by first | omega | (simp; omega)) (by simp; try omega) hAc ?_
                  intro v1 W1 own1 gr1 at1
                  rw [List.nil_append] at own1
                  refine hK.out _ _ ?_ (fun hHeld2 => ?_)
                  · exact ⟨(gr1.cell_far ⟨gr, og + i, none⟩ (by first | omega | (simp; omega)) (by simp [Value.ownBlock])).trans hHeld.1, (gr1.cell_far ⟨go, oo + p, none⟩ (by first | omega | (simp; omega)) (by simp [Value.ownBlock])).trans hHeld.2⟩
                  clear hK K hHeld
                  have hHeld := hHeld2
                  clear hHeld2
                  (try simp only [Act.put, List.setIfInBounds_toArray, List.set_cons_zero, List.set_cons_succ])
                  have hs1 : w9.heap.size ≤ W1.heap.size := gr1.size
                  have B1 := below_grown B0d gr1 (fun k e => by simp [Value.ownBlock] at e) (by simp)
                  have hfar0 : ∀ k, k < w9.heap.size → some k ≠ v1.ownBlock := fun k hk e => by have := (own1.lt k e.symm).1; omega
                  refine wpAnyH_ready (rs := [12]) (by kernel_rfl) (by simp) ?_
                  refine reg_each (o := _) rfl (fun K hK => ?_) ?_
                  · skip
                    go_simp
                    refine hK.out _ _ ?_ (fun hHeld2 => ?_)
                    · exact ⟨(World.cell?_alloc_lt _ _ ⟨gr, og + i, none⟩ (by first | omega | (simp; omega))).trans hHeld.1, (World.cell?_alloc_lt _ _ ⟨go, oo + p, none⟩ (by first | omega | (simp; omega))).trans hHeld.2⟩
                    clear hK K hHeld
                    have hHeld := hHeld2
                    clear hHeld2
                    (try simp only [Act.put, List.setIfInBounds_toArray, List.set_cons_zero, List.set_cons_succ])
                    have B2 := B1.alloc (by omega) (.cells #[.int .i64 (t : Int), .int .i64 (x : Int)] 40)
                    refine wpAnyH_ready (rs := [13]) (by kernel_rfl) (by simp) ?_
                    refine reg_each (o := _) rfl (fun K hK => ?_) ?_
                    · skip
                      refine step_append_lies _ (by rfl) _ _ _ (by rfl) w9.heap.size 40 i0 _ 2 16 Tryd.underlying22 hi0 hz0 hz1 hz2 rfl (by omega) v1 _ _ (by rfl) (own1.alloc _) ⟨W1.heap.size, 0, none⟩ 1 1 [.int .i64 (t : Int), .int .i64 (x : Int)] (by rfl) (by rfl) (World.news_of_block (cs := #[.int .i64 (t : Int), .int .i64 (x : Int)]) (t := 40) (fr := (0, 0)) (heap_alloc_new W1 _)) (by simp [Value.oneCell']) (by omega) (by simp only [maxLen]; omega) (by omega) (by first | omega | (simp; omega)) (W1.heap.size + 1) (by simp) ?_
                      intro gg cap' W3 own3 gr3 at3 lt3
                      refine hK.out _ _ ?_ (fun hHeld2 => ?_)
                      · exact ⟨(gr3.cell_far ⟨gr, og + i, none⟩ (by first | omega | (simp; omega)) (hfar0 _ (by first | omega | (simp; omega)))).trans hHeld.1, (gr3.cell_far ⟨go, oo + p, none⟩ (by first | omega | (simp; omega)) (hfar0 _ (by first | omega | (simp; omega)))).trans hHeld.2⟩
                      clear hK K hHeld
                      have hHeld := hHeld2
                      clear hHeld2
                      (try simp only [Act.put, List.setIfInBounds_toArray, List.set_cons_zero, List.set_cons_succ])
                      have B3 := below_grown B2 gr3 (fun k e => (own1.lt k e).1) (by first | omega | (simp; omega))
                      refine reg_take (i := 14) (oi := _) (v := ?_) rfl (by kernel_rfl) (by kernel_rfl) (by kernel_rfl) (fun _ _ _ h => h) (by rfl) ?_ (by assumption) ?_
                      rotate_left
                      · intro w hSw; (try dsimp only at hSw); obtain ⟨c0, c1⟩ := hSw; go_simp; try with_reducible rfl
                      (try simp only [Act.put, List.setIfInBounds_toArray, List.set_cons_zero, List.set_cons_succ])
                      refine wpAnyH_done (by kernel_rfl) ?_ _
                      refine NoPanic.normal ?_
                      rw [← cells2_snoc] at own3
                      have hl3 : (E ++ [(t, x)]).length = E.length + 1 := by simp
                      rw [← hl3] at own3
                      have hp3 := Pairs.of_owns2 own3 (by rw [hl3]; omega)
                      rw [hl3] at hp3
                      have HO := Lib.hid hp3
                      have HB3 := Lib.hid B3
                      clear own3 own1 gr3 gr1 hp3
                      go_wp2
                      go_meet
                      case rel => exact ⟨HO.out, HB3.out⟩
                    exact AllReadyH.nil
                  exact AllReadyH.nil
                refine reg_each (o := _) rfl (fun K hK => ?_) ?_
                · skip
                  go_simp
                  refine hK.out _ _ ?_ (fun hHeld2 => ?_)
                  · exact ⟨(World.cell?_alloc_lt _ _ ⟨gr, og + i, none⟩ (by first | omega | (simp; omega))).trans hHeld.1, (World.cell?_alloc_lt _ _ ⟨go, oo + p, none⟩ (by first | omega | (simp; omega))).trans hHeld.2⟩
                  clear hK K hHeld
                  have hHeld := hHeld2
                  clear hHeld2
                  (try simp only [Act.put, List.setIfInBounds_toArray, List.set_cons_zero, List.set_cons_succ])
                  have B1 := B0d.alloc (Nat.le_refl _) (.cells #[.int .i64 (t : Int), .int .i64 (x : Int)] 40)
                  refine wpAnyH_ready (rs := [2]) (by kernel_rfl) (by simp) ?_
                  refine reg_each (o := _) rfl (fun K hK => ?_) ?_
                  · skip
                    refine step_append_ways rfl _ _ (by rfl) w9.heap.size (.slice none 0 0) [] E A cap (by rfl) (by rfl) (World.ownsRow_nil _ _ _ _) (HPd.below (below_al (Below.refl _ _) _)) (by first | omega | (simp; omega)) (by simp; try omega) hAc ?_
                    intro v1 W1 own1 gr1 at1
                    rw [List.nil_append] at own1
                    refine hK.out _ _ ?_ (fun hHeld2 => ?_)
                    · exact ⟨(gr1.cell_far ⟨gr, og + i, none⟩ (by first | omega | (simp; omega)) (by simp [Value.ownBlock])).trans hHeld.1, (gr1.cell_far ⟨go, oo + p, none⟩ (by first | omega | (simp; omega)) (by simp [Value.ownBlock])).trans hHeld.2⟩
                    clear hK K hHeld
                    have hHeld := hHeld2
                    clear hHeld2
                    (try simp only [Act.put, List.setIfInBounds_toArray, List.set_cons_zero, List.set_cons_succ])
                    have hs1 : w9.heap.size + 1 ≤ W1.heap.size := by have := gr1.size; simpa using this
                    have B2 := below_grown B1 gr1 (fun k e => by simp [Value.ownBlock] at e) (by simp)
                    have hfar0 : ∀ k, k < w9.heap.size → some k ≠ v1.ownBlock := fun k hk e => by have := (own1.lt k e.symm).1; omega
                    have hbx : Blk W1 w9.heap.size 40 #[.int .i64 (t : Int), .int .i64 (x : Int)] := (gr1.block _ (by simp) (by simp [Value.ownBlock])).trans (Blk.new w9.drew 40 _)
                    refine wpAnyH_ready (rs := [13]) (by kernel_rfl) (by simp) ?_
                    refine reg_each (o := _) rfl (fun K hK => ?_) ?_
                    · skip
                      refine step_append_lies _ (by rfl) _ _ _ (by rfl) w9.heap.size 40 i0 _ 2 16 Tryd.underlying22 hi0 hz0 hz1 hz2 rfl (by omega) v1 _ _ (by rfl) own1 ⟨w9.heap.size, 0, none⟩ 1 1 [.int .i64 (t : Int), .int .i64 (x : Int)] (by rfl) (by rfl) (World.news_of_block (cs := #[.int .i64 (t : Int), .int .i64 (x : Int)]) (t := 40) (fr := (0, 0)) hbx) (by simp [Value.oneCell']) (by omega) (by simp only [maxLen]; omega) (by omega) (by first | omega | (simp; omega)) (W1.heap.size) (by simp) ?_
                      intro gg cap' W3 own3 gr3 at3 lt3
                      refine hK.out _ _ ?_ (fun hHeld2 => ?_)
                      · exact ⟨(gr3.cell_far ⟨gr, og + i, none⟩ (by first | omega | (simp; omega)) (hfar0 _ (by first | omega | (simp; omega)))).trans hHeld.1, (gr3.cell_far ⟨go, oo + p, none⟩ (by first | omega | (simp; omega)) (hfar0 _ (by first | omega | (simp; omega)))).trans hHeld.2⟩
                      clear hK K hHeld
                      have hHeld := hHeld2
                      clear hHeld2
                      (try simp only [Act.put, List.setIfInBounds_toArray, List.set_cons_zero, List.set_cons_succ])
                      have B3 := below_grown B2 gr3 (fun k e => (own1.lt k e).1) (by first | omega | (simp; omega))
                      refine reg_take (i := 14) (oi := _) (v := ?_) rfl (by kernel_rfl) (by kernel_rfl) (by kernel_rfl) (fun _ _ _ h => h) (by rfl) ?_ (by assumption) ?_
                      rotate_left
                      · intro w hSw; (try dsimp only at hSw); obtain ⟨c0, c1⟩ := hSw; go_simp; try with_reducible rfl
                      (try simp only [Act.put, List.setIfInBounds_toArray, List.set_cons_zero, List.set_cons_succ])
                      refine wpAnyH_done (by kernel_rfl) ?_ _
                      refine NoPanic.normal ?_
                      rw [← cells2_snoc] at own3
                      have hl3 : (E ++ [(t, x)]).length = E.length + 1 := by simp
                      rw [← hl3] at own3
                      have hp3 := Pairs.of_owns2 own3 (by rw [hl3]; omega)
                      rw [hl3] at hp3
                      have HO := Lib.hid hp3
                      have HB3 := Lib.hid B3
                      clear own3 own1 gr3 gr1 hp3
                      go_wp2
                      go_meet
                      case rel => exact ⟨HO.out, HB3.out⟩
                    exact AllReadyH.nil
                  exact AllReadyH.nil
                exact AllReadyH.nil
              case rest =>
                obtain ⟨hmore, Bm⟩ := hcut
                obtain ⟨wA, hwA⟩ : ∃ W : World, W = wc := ⟨_, rfl⟩
                subst hwA
                have HSB := Lib.hid (snoc_bound HE.out hyn2 hxn)
                have hEl2 : (E ++ [(t, x)]).length ≤ 81 := by rw [List.length_append, HLEN.out]; simp; omega
                have LO := Lib.hid (loop_ok n u17 (E ++ [(t, x)]) wA hmore HSB.out (by omega) (by omega))
                clear hmore hEl2
                go_wp2_with (fail)
                refine LO.out.mono ?_
                intro z wB hs
                obtain ⟨k, is, hki, rfl, BB⟩ := hs.is
                obtain rfl : is = true := cycle_is HSB.out HRY.out hki
                have BC := Br.trans ((below_trans Bm BB).mono Br.size)
                clear hs hki LO
                go_wp2
                go_roundw
                case rel => exact ⟨i + 1, by go_num, by omega, BC⟩
                case measure => simp [intOf]; omega
            · have d7 : decide ((i : Int) < (L1.length : Int)) = false := decide_eq_false (by omega)
              have BC := below_trans B18 Br
              go_wp2_with (fail)
              refine (SW.out _).mono ?_
              rintro z wD ⟨rfl, BD⟩
              have B := below_trans BC BD
              go_wp2
              go_ret
              exact ⟨rfl, B⟩
set_option maxRecDepth 100000 in
set_option maxHeartbeats 1000000 in
theorem closed_easy (n : Int) (a0 b0 : Int) (A : Option Addr) (cap : Nat) (L : List (Int × Int)) (w : World) (hL : Pairs w (.slice A L.length cap) L) (h : hugeB n L.length = true ∨ n < 1 ∨ chkF n L ≠ 0) :
    Calls Tryd.prog 6 #[.int .i64 n, .slice A L.length cap, .agg #[.int .i64 a0, .int .i64 b0]] w (TrueSaid w) := by
  have HW := Lib.hid (fun W => huge_walk n A L.length cap W)
  have SW := Lib.hid (fun W => sure_walk W)
  have B1 := below_al (Below.refl w.heap.size w) (.cells #[.int .i64 a0, .int .i64 b0] 40)
  have CK := Lib.hid (check_walk n _ L _ (hL.below B1))
  clear hL
  generalize hugeB n L.length = hb at *
  go_enter Tryd.func6, Tryd.ntmps6
  go_wp2_with (fail)
  refine (HW.out _).mono ?_
  rintro x w1 ⟨rfl, rfl⟩
  cases hb
  · by_cases h1 : n < 1
    · clear h
      go_wp2_with (fail)
      refine (SW.out _).mono ?_
      rintro x w2 ⟨rfl, B2⟩
      have B3 := below_trans B1 B2
      go_wp2
      go_ret
      exact ⟨rfl, B3⟩
    · have hc : chkF n L ≠ 0 := by
        rcases h with h | h | h
        · cases h
        · exact absurd h h1
        · exact h
      rw [show errI (chkF n L) = .iface 43 (.int .i64 (chkF n L)) from if_neg hc] at CK
      clear h hc
      go_wp2_with (fail)
      refine CK.out.mono ?_
      rintro x w2 ⟨rfl, B2⟩
      have B3 := below_trans B1 B2
      go_wp2_with (fail)
      refine (SW.out _).mono ?_
      rintro x w4 ⟨rfl, B4⟩
      have B5 := below_trans B3 B4
      go_wp2
      go_ret
      exact ⟨rfl, B5⟩
  · clear h
    go_wp2_with (fail)
    refine (SW.out _).mono ?_
    rintro x w2 ⟨rfl, B2⟩
    have B3 := below_trans B1 B2
    go_wp2
    go_ret
    exact ⟨rfl, B3⟩
theorem closed_walk (n a b : Int) (A : Option Addr) (len cap : Nat) (L : List (Int × Int)) (w : World) (hl : L.length = len) (hL : Pairs w (.slice A len cap) L) (hAc : A = none → cap = 0) (hg : ErrType w) :
    Calls Tryd.prog 6 #[.int .i64 n, .slice A len cap, .agg #[.int .i64 a, .int .i64 b]] w (TrueSaid w) := by
  subst hl
  by_cases h : hugeB n L.length = true ∨ n < 1 ∨ chkF n L ≠ 0
  · exact closed_easy n a b A cap L w hL h
  · rw [not_or, not_or] at h
    obtain ⟨h1, h2, h3⟩ := h
    have h3 : chkF n L = 0 := Classical.byContradiction h3
    obtain ⟨N, E, rfl, rfl, hE, hN, hm⟩ := chkF_zero h3
    rw [castE_len] at h1 ⊢
    unfold hugeB at h1
    simp only [Bool.or_eq_true, Bool.and_eq_true, decide_eq_true_eq, not_or, not_and] at h1
    rw [castE_len] at hL
    exact closed_main N a b A cap E w hL hAc (by omega) (by omega) (by omega) hE hg
end Go.Proofs.YtdgclggmemciaaaDoor
