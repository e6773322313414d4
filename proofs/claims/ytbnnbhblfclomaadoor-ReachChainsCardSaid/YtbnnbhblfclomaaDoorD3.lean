/- ReachChains, walked. -/
import Derived.Test.YtbnnbhblfclomaaDoorB8
import Derived.Test.YtbnnbhblfclomaaDoorB9
import Derived.Test.YtbnnbhblfclomaaDoorD1
namespace Go.Proofs.YtbnnbhblfclomaaDoor
open Go.RowKit
set_option linter.unusedSimpArgs false
set_option linter.unusedVariables false
section
variable {P : Program} {ops : Array Oper} {Q : Exit → Act → World → Prop} {md : Region.Mode} {S : World → Prop}
theorem op_at {i : Nat} {oi : Oper} (h : ops.toList[i]? = some oi) : ops[i]? = some oi := by rw [← Array.getElem?_toList]; exact h
/-- The i-th operation comes up, runs, and yields v in every world that meets S. -/
theorem reg_take {i : Nat} {oi : Oper} {v : Value} {fuel : Nat} {listed : Array Bool} {a : Act} {w : World} (hi : ops.toList[i]? = some oi)
    (hs : Region.noSelect ops = true) (hf : Region.free md ops listed i = true) (hr : (Region.ready md ops listed).contains i = true)
    (hQ : ∀ c a w, Q (.panic c) (a.put oi.dst v) w → Q (.panic c) a w) (hw : Region.wanted oi (yielded ops a.tmps) = true) (hy : ∀ w, S w → (execOp a.eval oi).run P w = .ok (.value v) w) (hS : S w)
    (h : wpAnyH P md ops Q S fuel (listed.setIfInBounds i true) (a.put oi.dst v) w) : wpAnyH P md ops Q S (fuel + 1) listed a w :=
  wpAnyH_take (op_at hi) hs hf hr hQ (Or.inl ⟨hw, hy⟩) hS h
/-- The i-th operation comes up, and is left out. -/
theorem reg_skip {i : Nat} {oi : Oper} {fuel : Nat} {listed : Array Bool} {a : Act} {w : World} (hi : ops.toList[i]? = some oi)
    (hs : Region.noSelect ops = true) (hf : Region.free md ops listed i = true) (hr : (Region.ready md ops listed).contains i = true)
    (hQ : ∀ c a w, Q (.panic c) (a.put oi.dst undef) w → Q (.panic c) a w) (hw : Region.wanted oi (yielded ops a.tmps) = false) (hS : S w)
    (h : wpAnyH P md ops Q S fuel (listed.setIfInBounds i true) (a.put oi.dst undef) w) : wpAnyH P md ops Q S (fuel + 1) listed a w :=
  wpAnyH_take (op_at hi) hs hf hr hQ (Or.inr ⟨hw, rfl⟩) hS h
theorem reg_each {fuel : Nat} {listed : Array Bool} {a : Act} {w : World} {i : Nat} {o : Oper} {rs : List Nat} (ho : ops.toList[i]? = some o)
    (h : ∀ K' : Act → World → Prop, Shut (∀ a w, S w → (S w → wpAnyH P md ops Q S fuel (listed.setIfInBounds i true) a w) → K' a w) → if Region.wanted o (yielded ops a.tmps) = true then Oper.wp P o a w K' Q else K' (a.put o.dst undef) w)
    (hs : AllReadyH P md ops Q S fuel listed a w rs) : AllReadyH P md ops Q S fuel listed a w (i :: rs) := AllReadyH.cons (op_at ho) h hs
end
theorem masters_sub {D : List Dp} {n k x y : Nat} (hb : ∀ e, e ∈ ED D → e.1 < n ∧ e.2 < n) (hx : rounds (ED D) k (n + 1) x = true) (hy : rounds (ED D) x (n + 1) y = true) : rounds (ED D) k (n + 1) y = true := by
  rw [rounds_all (ED D) _ n (fun e he => (hb e he).2)] at *
  obtain ⟨b, e, r⟩ := hx
  obtain ⟨b2, e2, r2⟩ := hy
  exact ⟨b, e, (r.tail e2).trans r2⟩
theorem blocked_hangs {D : List Dp} {S : List Int} {n k : Nat} (hb : ∀ d, d ∈ D → (0 ≤ d.on ∧ d.on < (n : Int)) ∧ 0 ≤ d.of_ ∧ d.of_ < (n : Int)) (h : D.any (failsD S k) = true) : (List.range n).filter (rounds (ED D) k (n + 1)) ≠ [] := by
  obtain ⟨d, hd, hf⟩ := List.any_eq_true.1 h
  unfold failsD at hf
  rw [Bool.and_eq_true] at hf
  have h1 := of_decide_eq_true hf.1
  obtain ⟨⟨a0, a1⟩, b0, b1⟩ := hb d hd
  have hr : rounds (ED D) k (n + 1) d.on.toNat = true := by
    rw [rounds_all (ED D) k n (fun e he => (ED_bound hb e he).2)]
    refine ⟨d.on.toNat, mem_ED.2 ⟨d, hd, by rw [h1]; simp, rfl⟩, .refl _⟩
  intro he
  have hm : d.on.toNat ∈ (List.range n).filter (rounds (ED D) k (n + 1)) := List.mem_filter.2 ⟨List.mem_range.2 (by omega), hr⟩
  rw [he] at hm; cases hm
def twos (n : Nat) : List Int := (List.range n).map fun _ => 2
theorem twos_len (n : Nat) : (twos n).length = n := by simp [twos]
theorem twos_none (n : Nat) : (twos n).any noneS = false := by
  refine Bool.eq_false_iff.2 fun h => ?_
  obtain ⟨e, he, ha⟩ := List.any_eq_true.1 h
  obtain ⟨j, _, rfl⟩ := List.mem_map.1 he
  revert ha; decide
theorem checkE_of {D : List Dp} {n : Int} {k : Nat} (hl : D.length ≤ 60) (hr : ∀ d, d ∈ D → (0 ≤ d.on ∧ d.on < n) ∧ 0 ≤ d.of_ ∧ d.of_ < n) (hk : (k : Int) < n) : checkE D n k = 0 := by
  unfold checkE
  rw [if_neg (by omega), if_neg]
  intro h
  rw [Bool.or_eq_true, Bool.or_eq_true] at h
  rcases h with h | h | h
  · have := of_decide_eq_true h; omega
  · have := of_decide_eq_true h; omega
  · obtain ⟨d, hd, ha⟩ := List.any_eq_true.1 h
    have := hr d hd
    unfold awayD at ha
    rw [Bool.or_eq_true, Bool.or_eq_true, Bool.or_eq_true] at ha
    rcases ha with h | h | h | h <;> (have := of_decide_eq_true h; omega)
set_option maxRecDepth 100000 in
set_option maxHeartbeats 16000000 in
theorem reachChains_walk (v : Value) (D : List Dp) (n of_ : Int) (w : World) (hg : ErrType w) (hD : RdD w v w.heap.size D) (hl : D.length ≤ 9223372036854775807) :
    Calls Tryd.prog 5 #[v, .int .i64 n, .int .i64 of_] w fun y w' => y = .returned (.bool true) ∧ Below w.heap.size w w' := by
  have HG := Lib.hid hg
  have HD := Lib.hid hD
  obtain ⟨A, cap, rfl⟩ := hD.form
  have SW := Lib.hid (sure_walk w)
  clear hg hD
  by_cases h1 : 60 < D.length
  · have h1' : (60 : Int) < (D.length : Int) := by omega
    clear h1
    go_enter Tryd.func5, Tryd.ntmps5
    go_wp2_with (fail)
    refine SW.out.mono ?_
    rintro y w2 ⟨rfl, B2⟩
    go_wp2
    go_ret
    exact ⟨rfl, B2⟩
  have h1' : ¬ (60 : Int) < (D.length : Int) := by omega
  by_cases h2 : n < 1
  · clear h1
    go_enter Tryd.func5, Tryd.ntmps5
    go_wp2_with (fail)
    refine SW.out.mono ?_
    rintro y w2 ⟨rfl, B2⟩
    go_wp2
    go_ret
    exact ⟨rfl, B2⟩
  by_cases h3 : 60 < n
  · clear h1
    go_enter Tryd.func5, Tryd.ntmps5
    go_wp2_with (fail)
    refine SW.out.mono ?_
    rintro y w2 ⟨rfl, B2⟩
    go_wp2
    go_ret
    exact ⟨rfl, B2⟩
  have hl60 : D.length ≤ 60 := by omega
  obtain ⟨N, rfl⟩ := Int.eq_ofNat_of_zero_le (show 0 ≤ n by omega)
  have hum := u64m_bd of_ (N : Int) (by omega)
  obtain ⟨k, hk⟩ : ∃ k : Nat, (IntKind.u64.wrap of_).tmod (N : Int) = (k : Int) := ⟨((IntKind.u64.wrap of_).tmod (N : Int)).toNat, by omega⟩
  rw [hk] at hum
  have hN60 : N ≤ 60 := by omega
  have hkz : ((N : Int) == 0) = false := beq_eq_false_iff_ne.2 (by omega)
  have hkw : IntKind.u64.wrap (N : Int) = (N : Int) := by rw [u64w]; omega
  have G1 := Lib.hid (give_walk _ D w HD.out hl60)
  clear SW h1
  go_enter Tryd.func5, Tryd.ntmps5
  go_upto_region 4 with (fail)
  clear hk
  go_wp2_with (fail)
  refine G1.out.mono ?_
  rintro y w1 ⟨⟨v1, rfl, own1⟩, B1⟩
  have BT1 := Lib.hid B1
  have W1 := Lib.hid (masters_walk v1 D (N : Int) (k : Int) w1 (RdD.of_owns own1 rfl (Nat.le_refl _)) hl60)
  clear G1 own1 B1
  go_wp2_with (fail)
  refine W1.out.mono ?_
  rintro y w2 ⟨⟨r1, rfl, hr1, hn1⟩, B2⟩
  have BT2 := Lib.hid (below_trans BT1.out B2)
  have HR1 := Lib.hid hr1
  clear W1 B2 BT1 hr1
  have hme : mastersE D N k = checkE D N k := by unfold mastersE; rw [if_neg (by omega)]
  by_cases hc : checkE D N k = 0
  · obtain ⟨_, hrng⟩ := check_range (by omega) hc
    have HRG := Lib.hid hrng
    have HEB := Lib.hid (ED_bound hrng)
    rw [hme, hc, errI_zero]
    have hml : mastersL D N k = (List.range N).filter (rounds (ED D) k (N + 1)) := by unfold mastersL; rw [if_pos (by rw [hme, hc]), Int.toNat_natCast, Int.toNat_natCast]
    rw [hml] at HR1 hn1
    clear hme hc hrng hml
    obtain ⟨l, hl⟩ : ∃ l, (List.range N).filter (rounds (ED D) k (N + 1)) = l := ⟨_, rfl⟩
    rw [hl] at HR1 hn1
    have HL := Lib.hid hl
    clear hl
    have HMEM := Lib.hid (show ∀ x, x ∈ l → x < N ∧ rounds (ED D) k (N + 1) x = true from fun x hx => by
      rw [← HL.out] at hx
      exact ⟨List.mem_range.1 (List.mem_filter.1 hx).1, (List.mem_filter.1 hx).2⟩)
    have HIN := Lib.hid (show ∀ x, x < N → rounds (ED D) k (N + 1) x = true → x ∈ l from fun x h1 h2 => by
      rw [← HL.out]; exact List.mem_filter.2 ⟨List.mem_range.2 h1, h2⟩)
    have hll : l.length ≤ 60 := by
      rw [← HL.out]
      have := filt_len (rounds (ED D) k (N + 1)) N
      omega
    obtain ⟨A2, c2, rfl⟩ := HR1.out.form
    have hmapl : (l.map (fun (x : Nat) => (x : Int))).length = l.length := by simp
    have HR2 := Lib.hid (show RdI w2 (.slice A2 (l.map (fun (x : Nat) => (x : Int))).length c2) w2.heap.size (l.map (fun (x : Nat) => (x : Int))) from HR1.out)
    rw [hmapl]
    have hmk := fun W => make_walk N (by omega) W
    have hb0 := Lib.hid (Blk.new w2 3 (natsA N (fun _ => 0)))
    have B0 := Lib.hid (below_al (Below.refl w2.heap.size w2) (.cells (natsA N (fun _ => 0)) 3))
    clear HR1 hmapl
    generalize hgs : w2.heap.size = gs at *
    go_upto_region 9 with (fail)
    generalize w2.alloc (Obj.cells (natsA N fun x => 0) 3) = w3 at *
    clear hmk
    go_loopw [11] (fun iv wl => ∃ (i : Nat) (f : Nat → Nat), iv = .int .i64 i ∧ i ≤ N ∧ (∀ j, j < i → f j = 2) ∧ Blk wl gs 3 (natsA N f) ∧ Below gs w2 wl) (fun iv _ => N - (intOf iv).toNat)
    case atStart => exact ⟨0, _, rfl, Nat.zero_le _, fun j hj => by omega, hb0.out, B0.out⟩
    case round =>
      clear hb0 B0
      obtain ⟨wl, rfl⟩ : ∃ Z, Z = wr := ⟨_, rfl⟩
      obtain ⟨i, f, rfl, hi, hf, hb, bel⟩ := hrel
      have i0 : (0 : Int) ≤ i := by omega
      have HF := Lib.hid hf
      have HB := Lib.hid hb
      have BEL := Lib.hid bel
      clear hf hb bel
      by_cases hiN : i < N
      · have hiN' : (i : Int) < (N : Int) := by omega
        have o0 : wl.cell? ⟨gs, i, none⟩ = some (.int .i64 ((f i : Nat) : Int)) := by rw [HB.out.cell, natsA_get _ hiN]
        have zo := World.block_lt_of_cell? _ _ o0
        have fz : wl.frozen? ⟨gs, i, none⟩ = false := HB.out.frozen i
        have NB := Lib.hid (HB.out.put i (.int .i64 ((2 : Nat) : Int)) (natsA_set N i 2 f))
        have NL := Lib.hid (below_set (j := i) BEL.out (.int .i64 ((2 : Nat) : Int)))
        have HF2 := Lib.hid (show ∀ j, j < i + 1 → updN f i 2 j = 2 from fun j hj => by
          by_cases h : j = i
          · subst h; rw [updN_self]
          · rw [updN_ne _ _ h]; exact HF.out j (by omega))
        go_wp2_with (fail)
        go_roundw
        case rel => exact ⟨i + 1, _, by go_num, by omega, HF2.out, NB.out, NL.out⟩
        case measure => simp [intOf]; omega
      · have hie : ¬ (i : Int) < (N : Int) := by omega
        have HS := Lib.hid (show RdI wl (.slice (some ⟨gs, 0, none⟩) (twos N).length N) wl.heap.size (twos N) from .inr ⟨gs, 0, N, rfl, HB.out.lt, fun j hj => by
          rw [twos_len] at hj
          rw [Nat.zero_add, HB.out.cell, natsA_get _ hj, HF.out j (by omega)]
          simp [twos, List.getD_eq_getElem?_getD, hj]⟩)
        have BT3 := Lib.hid (show Below w.heap.size w wl from BT2.out.trans (BEL.out.mono (by have := BT2.out.size; omega)))
        have HRL := Lib.hid ((HR2.out.below BEL.out (Nat.le_refl _)).wider (show gs ≤ wl.heap.size from Nat.le_of_lt HB.out.lt))
        have G2 := Lib.hid (give_walk _ D wl ((HD.out.below BT3.out (Nat.le_refl _)).wider BT3.out.size) hl60)
        clear HF HB BEL HR2
        go_wp2_with (fail)
        refine G2.out.mono ?_
        rintro y w4 ⟨⟨v4, rfl, own4⟩, B4⟩
        have BT4 := Lib.hid (below_trans BT3.out B4)
        have HRL4 := Lib.hid ((HRL.out.below B4 (Nat.le_refl _)).wider B4.size)
        have W4 := Lib.hid (blocked_walk v4 _ D (twos N) (k : Int) w4 (RdD.of_owns own4 rfl (Nat.le_refl _)) ((HS.out.below B4 (Nat.le_refl _)).wider B4.size) hl60 (by rw [twos_len]; exact hN60))
        rw [twos_len] at W4
        clear G2 own4 B4 BT3 HS HRL
        go_wp2_with (fail)
        refine W4.out.mono ?_
        rintro y w5 ⟨rfl, B5⟩
        have BT5 := Lib.hid (below_trans BT4.out B5)
        have HRL5 := Lib.hid ((HRL4.out.below B5 (Nat.le_refl _)).wider B5.size)
        have HX := Lib.hid (show blockedE D (twos N) k = 0 → blockedB D (twos N) k = true → l.length ≠ 0 from fun h1 h2 h3 => by
          unfold blockedB at h2
          rw [if_pos h1] at h2
          exact blocked_hangs HRG.out h2 (by rw [HL.out]; exact List.length_eq_zero_iff.1 h3))
        clear W4 B5 BT4 HRL4
        generalize blockedE D (twos N) k = be at *
        generalize blockedB D (twos N) k = bb at *
        have cont : ∀ Q : Prop, (∀ x : Value, x = errI be → ((be = 0 ∧ x = .nilIface) ∨ (be ≠ 0 ∧ x = .iface 48 (.int .i64 be))) → Q) → Q := fun Q h => h _ rfl (by
          by_cases hz : be = 0
          · subst hz; exact .inl ⟨rfl, rfl⟩
          · exact .inr ⟨hz, if_neg hz⟩)
        refine cont _ (fun xe hxe hcase => ?_)
        rw [← hxe]
        clear cont hxe
        have cont2 : ∀ Q : Prop, ((xe = .nilIface ∧ bb = true ∧ ((l.length : Int) == 0) = false) → Q) → ((xe = .nilIface ∧ bb = false) → Q) → ((∃ e, xe = .iface 48 (.int .i64 e)) → Q) → Q := fun Q a b c => by
          rcases hcase with ⟨h1, h2⟩ | ⟨h1, h2⟩
          · cases hbb : bb with
            | true => exact a ⟨h2, hbb, beq_eq_false_iff_ne.2 (by have := HX.out h1 hbb; omega)⟩
            | false => exact b ⟨h2, hbb⟩
          · exact c ⟨_, h2⟩
        clear hcase HX
        refine cont2 _ ?_ ?_ ?_
        · rintro ⟨rfl, rfl, hne⟩
          clear cont2
          go_upto_region 16 with (fail)
          go_loopw [14, 15, 16, 17, 18, 19] (fun iv _ _ _ _ _ wl => ∃ i : Nat, iv = .int .i64 i ∧ i ≤ l.length ∧ Below w5.heap.size w5 wl) (fun iv _ _ _ _ _ _ => l.length - (intOf iv).toNat)
          case atStart => exact ⟨0, rfl, Nat.zero_le _, Below.refl _ _⟩
          case round =>
            obtain ⟨wl, rfl⟩ : ∃ Z, Z = wr := ⟨_, rfl⟩
            obtain ⟨i, rfl, hi, bel⟩ := hrel
            have i0 : (0 : Int) ≤ i := by omega
            have BEL := Lib.hid bel
            clear bel
            by_cases hil : i < l.length
            · have hil' : (i : Int) < (l.length : Int) := by omega
              have HRW := Lib.hid ((HRL5.out.below BEL.out (Nat.le_refl _)).wider BEL.out.size)
              obtain ⟨gl, ol, e1, y0⟩ := HRW.out.cell (i := i) (by simp; exact hil)
              subst e1
              have hx : (l.map (fun (x : Nat) => (x : Int))).getD i 0 = ((l.getD i 0 : Nat) : Int) := by simp [List.getD_eq_getElem?_getD, hil]
              rw [hx] at y0
              have hxm := HMEM.out (l.getD i 0) (by rw [List.getD_eq_getElem?_getD, List.getElem?_eq_getElem hil]; exact List.getElem_mem _)
              generalize l.getD i 0 = x at *
              have z0 := World.block_lt_of_cell? _ _ y0
              have BTW := Lib.hid (below_trans BT5.out BEL.out)
              have hme : mastersE D N x = 0 := by unfold mastersE; rw [if_neg (by omega)]; exact checkE_of hl60 HRG.out (by omega)
              have hml : mastersL D N x = (List.range N).filter (rounds (ED D) x (N + 1)) := by unfold mastersL; rw [if_pos hme, Int.toNat_natCast, Int.toNat_natCast]
              have HSUB := Lib.hid (show ∀ y, y ∈ mastersL D N x → y ∈ l from fun y hy => by
                rw [hml] at hy
                obtain ⟨h1, h2⟩ := List.mem_filter.1 hy
                exact HIN.out y (List.mem_range.1 h1) (masters_sub HEB.out hxm.2 h2))
              have GV := Lib.hid (fun w' (hb : Below wl.heap.size wl w') => give_walk (.slice A D.length cap) D w' ((HD.out.below (below_trans BTW.out hb) (Nat.le_refl _)).wider (below_trans BTW.out hb).size) hl60)
              have MS := Lib.hid (show ∀ v1 w1 w' (own1 : w1.ownsRow wl.heap.size 64 3 v1 D.length (cellsD D)) (hb : Below w1.heap.size w1 w'), Calls Tryd.prog 15 #[v1, .int .i64 (N : Int), .int .i64 (x : Int)] w' (fun y w2 => (∃ v, y = .returned (.tuple #[v, .nilIface]) ∧ RdI w2 v w2.heap.size ((mastersL D N x).map (fun (x : Nat) => (x : Int))) ∧ (mastersL D N x).length ≤ 1024) ∧ Below w'.heap.size w' w2) from fun v1 w1 w' own1 hb => (masters_walk v1 D (N : Int) (x : Int) w' (((RdD.of_owns own1 rfl (Nat.le_refl _)).below hb (Nat.le_refl _)).wider hb.size) hl60).mono fun y w2 h => by
                unfold MastersSaid at h
                rw [hme, errI_zero] at h
                exact h)
              generalize mastersL D N x = M at *
              clear hme hml hx hxm
              go_upto_region 18 with (fail)
              refine wp_region_noPanic ?_
              refine wp_region_held_drew (S := (fun w' => Below wl.heap.size wl w')) (by kernel_rfl) ?_ (fun hHeld => ?_)
              · exact below_drewN (Below.refl _ _) 1
              refine reg_take (i := 0) (oi := _) (v := ?_) rfl (by kernel_rfl) (by kernel_rfl) (by kernel_rfl) (fun _ _ _ h => h) (by rfl) ?_ (by assumption) ?_
              rotate_left
              · intro w hSw; (try dsimp only at hSw); replace y0 := bel_cell hSw y0; replace z0 := Nat.lt_of_lt_of_le z0 hSw.size; go_simp; try with_reducible rfl
              (try simp only [Act.put, List.setIfInBounds_toArray, List.set_cons_zero, List.set_cons_succ])
              refine reg_take (i := 2) (oi := _) (v := ?_) rfl (by kernel_rfl) (by kernel_rfl) (by kernel_rfl) (fun _ _ _ h => h) (by rfl) ?_ (by assumption) ?_
              rotate_left
              · intro w hSw; (try dsimp only at hSw); replace y0 := bel_cell hSw y0; replace z0 := Nat.lt_of_lt_of_le z0 hSw.size; go_simp; try with_reducible rfl
              (try simp only [Act.put, List.setIfInBounds_toArray, List.set_cons_zero, List.set_cons_succ])
              refine reg_take (i := 3) (oi := _) (v := ?_) rfl (by kernel_rfl) (by kernel_rfl) (by kernel_rfl) (fun _ _ _ h => h) (by rfl) ?_ (by assumption) ?_
              rotate_left
              · intro w hSw; (try dsimp only at hSw); replace y0 := bel_cell hSw y0; replace z0 := Nat.lt_of_lt_of_le z0 hSw.size; go_simp; try with_reducible rfl
              (try simp only [Act.put, List.setIfInBounds_toArray, List.set_cons_zero, List.set_cons_succ])
              refine reg_take (i := 4) (oi := _) (v := ?_) rfl (by kernel_rfl) (by kernel_rfl) (by kernel_rfl) (fun _ _ _ h => h) (by rfl) ?_ (by assumption) ?_
              rotate_left
              · intro w hSw; (try dsimp only at hSw); replace y0 := bel_cell hSw y0; replace z0 := Nat.lt_of_lt_of_le z0 hSw.size; go_simp; try with_reducible rfl
              (try simp only [Act.put, List.setIfInBounds_toArray, List.set_cons_zero, List.set_cons_succ])
              refine reg_take (i := 5) (oi := _) (v := ?_) rfl (by kernel_rfl) (by kernel_rfl) (by kernel_rfl) (fun _ _ _ h => h) (by rfl) ?_ (by assumption) ?_
              rotate_left
              · intro w hSw; (try dsimp only at hSw); replace y0 := bel_cell hSw y0; replace z0 := Nat.lt_of_lt_of_le z0 hSw.size; go_simp; try with_reducible rfl
              (try simp only [Act.put, List.setIfInBounds_toArray, List.set_cons_zero, List.set_cons_succ])
              refine reg_take (i := 6) (oi := _) (v := ?_) rfl (by kernel_rfl) (by kernel_rfl) (by kernel_rfl) (fun _ _ _ h => h) (by rfl) ?_ (by assumption) ?_
              rotate_left
              · intro w hSw; (try dsimp only at hSw); replace y0 := bel_cell hSw y0; replace z0 := Nat.lt_of_lt_of_le z0 hSw.size; go_simp; try with_reducible rfl
              (try simp only [Act.put, List.setIfInBounds_toArray, List.set_cons_zero, List.set_cons_succ])
              refine wpAnyH_ready (rs := [1]) (by kernel_rfl) (by simp) ?_
              refine reg_each (o := _) rfl (fun K hK => ?_) ?_
              · skip
                go_simp
                refine (GV.out _ hHeld).mono ?_
                rintro q w1 ⟨⟨v1, rfl, hown⟩, hb⟩
                have B1 := Lib.hid (below_trans hHeld hb)
                have OW1 := Lib.hid (owns_mono hown hHeld.size)
                clear hown hb
                go_wp2_with (fail)
                refine hK.out _ _ ?_ (fun hHeld2 => ?_)
                · exact B1.out
                clear hK K hHeld
                have hHeld := hHeld2
                clear hHeld2
                (try simp only [Act.put, List.setIfInBounds_toArray, List.set_cons_zero, List.set_cons_succ])
                have hBg := Lib.hid hHeld
                refine wpAnyH_ready (rs := [7]) (by kernel_rfl) (by simp) ?_
                refine reg_each (o := _) rfl (fun K hK => ?_) ?_
                · skip
                  go_simp
                  refine (MS.out v1 w1 _ OW1.out (Below.refl _ _)).mono ?_
                  rintro q w2' ⟨⟨v2, rfl, hr2, hn2⟩, hb2⟩
                  have HM2 := Lib.hid hr2
                  have B2 := Lib.hid (below_trans B1.out hb2)
                  clear hr2
                  go_wp2_with (fail)
                  refine hK.out _ _ ?_ (fun hHeld2 => ?_)
                  · exact B2.out
                  clear hK K hHeld
                  have hHeld := hHeld2
                  clear hHeld2
                  (try simp only [Act.put, List.setIfInBounds_toArray, List.set_cons_zero, List.set_cons_succ])
                  refine reg_take (i := 8) (oi := _) (v := ?_) rfl (by kernel_rfl) (by kernel_rfl) (by kernel_rfl) (fun _ _ _ h => h) (by rfl) ?_ (by assumption) ?_
                  rotate_left
                  · intro w hSw; (try dsimp only at hSw); replace y0 := bel_cell hSw y0; replace z0 := Nat.lt_of_lt_of_le z0 hSw.size; go_simp; try with_reducible rfl
                  (try simp only [Act.put, List.setIfInBounds_toArray, List.set_cons_zero, List.set_cons_succ])
                  refine reg_take (i := 9) (oi := _) (v := ?_) rfl (by kernel_rfl) (by kernel_rfl) (by kernel_rfl) (fun _ _ _ h => h) (by rfl) ?_ (by assumption) ?_
                  rotate_left
                  · intro w hSw; (try dsimp only at hSw); replace y0 := bel_cell hSw y0; replace z0 := Nat.lt_of_lt_of_le z0 hSw.size; go_simp; try with_reducible rfl
                  (try simp only [Act.put, List.setIfInBounds_toArray, List.set_cons_zero, List.set_cons_succ])
                  refine reg_take (i := 10) (oi := _) (v := ?_) rfl (by kernel_rfl) (by kernel_rfl) (by kernel_rfl) (fun _ _ _ h => h) (by rfl) ?_ (by assumption) ?_
                  rotate_left
                  · intro w hSw; (try dsimp only at hSw); replace y0 := bel_cell hSw y0; replace z0 := Nat.lt_of_lt_of_le z0 hSw.size; go_simp; try with_reducible rfl
                  (try simp only [Act.put, List.setIfInBounds_toArray, List.set_cons_zero, List.set_cons_succ])
                  refine reg_take (i := 11) (oi := _) (v := ?_) rfl (by kernel_rfl) (by kernel_rfl) (by kernel_rfl) (fun _ _ _ h => h) (by rfl) ?_ (by assumption) ?_
                  rotate_left
                  · intro w hSw; (try dsimp only at hSw); replace y0 := bel_cell hSw y0; replace z0 := Nat.lt_of_lt_of_le z0 hSw.size; go_simp; try with_reducible rfl
                  (try simp only [Act.put, List.setIfInBounds_toArray, List.set_cons_zero, List.set_cons_succ])
                  refine reg_take (i := 12) (oi := _) (v := ?_) rfl (by kernel_rfl) (by kernel_rfl) (by kernel_rfl) (fun _ _ _ h => h) (by rfl) ?_ (by assumption) ?_
                  rotate_left
                  · intro w hSw; (try dsimp only at hSw); replace y0 := bel_cell hSw y0; replace z0 := Nat.lt_of_lt_of_le z0 hSw.size; go_simp; try with_reducible rfl
                  (try simp only [Act.put, List.setIfInBounds_toArray, List.set_cons_zero, List.set_cons_succ])
                  refine wpAnyH_done (by kernel_rfl) ?_ _
                  refine NoPanic.normal ?_
                  replace y0 := trivial
                  clear y0 z0 hHeld hBg GV MS OW1 B1
                  obtain ⟨A9, c9, rfl⟩ := HM2.out.form
                  have HRX := Lib.hid ((HRW.out.below B2.out (Nat.le_refl _)).wider B2.out.size)
                  have BEL2 := Lib.hid (below_trans BEL.out B2.out)
                  have hmM : (M.map (fun (x : Nat) => (x : Int))).length = M.length := by simp
                  have HM3 := HM2
                  rw [hmM]
                  clear HM2 HRW BEL B2
                  go_upto_region 22 with (fail)
                  go_loopw [17, 18, 19] (fun jv _ _ wz => ∃ j : Nat, jv = .int .i64 j ∧ j ≤ M.length ∧ Below w2'.heap.size w2' wz) (fun jv _ _ _ => M.length - (intOf jv).toNat)
                  case atStart => exact ⟨0, rfl, Nat.zero_le _, Below.refl _ _⟩
                  case round =>
                    obtain ⟨wz, rfl⟩ : ∃ Z, Z = wr := ⟨_, rfl⟩
                    obtain ⟨j, rfl, hj, bel⟩ := hrel
                    have j0 : (0 : Int) ≤ j := by omega
                    have BZ := Lib.hid bel
                    clear bel
                    by_cases hjM : j < M.length
                    · have hjM' : (j : Int) < (M.length : Int) := by omega
                      have hy : (M.map (fun (x : Nat) => (x : Int))).getD j 0 = ((M.getD j 0 : Nat) : Int) := by simp [List.getD_eq_getElem?_getD, hjM]
                      have HY := Lib.hid hy
                      have hym := HSUB.out (M.getD j 0) (by rw [List.getD_eq_getElem?_getD, List.getElem?_eq_getElem hjM]; exact List.getElem_mem _)
                      have HYM := Lib.hid hym
                      clear hy hym
                      generalize hq : M.getD j 0 = q at *
                      clear hq
                      go_upto_region 26 with (fail)
                      go_loopw [18, 19] (fun sv xv wy => ∃ x : Nat, sv = .bool ((l.take x).any (fun z => z == q)) ∧ xv = .int .i64 x ∧ x ≤ l.length ∧ Below w2'.heap.size w2' wy) (fun _ xv _ => l.length - (intOf xv).toNat)
                      case atStart => exact ⟨0, rfl, rfl, Nat.zero_le _, BZ.out⟩
                      case round =>
                        clear BZ
                        obtain ⟨wy, rfl⟩ : ∃ Z, Z = wr := ⟨_, rfl⟩
                        obtain ⟨x9, rfl, rfl, hx9, bel⟩ := hrel
                        have x0 : (0 : Int) ≤ x9 := by omega
                        have BY := Lib.hid bel
                        clear bel
                        by_cases hxl : x9 < l.length
                        · have hxl' : (x9 : Int) < (l.length : Int) := by omega
                          obtain ⟨g1, o1, e1, q1⟩ := ((HRX.out.below BY.out (Nat.le_refl _)).wider BY.out.size).cell (i := x9) (by simp; exact hxl)
                          obtain ⟨g2, o2, e2, q2⟩ := ((HM3.out.below BY.out (Nat.le_refl _)).wider BY.out.size).cell (i := j) (by simp; exact hjM)
                          cases e1
                          subst e2
                          rw [HY.out] at q2
                          have hz : (l.map (fun (x : Nat) => (x : Int))).getD x9 0 = ((l.getD x9 0 : Nat) : Int) := by simp [List.getD_eq_getElem?_getD, hxl]
                          rw [hz] at q1
                          have zq1 := World.block_lt_of_cell? _ _ q1
                          have zq2 := World.block_lt_of_cell? _ _ q2
                          have HAN := Lib.hid (show (l.take (x9 + 1)).any (fun z => z == q) = ((l.take x9).any (fun z => z == q) || (l.getD x9 0 == q)) by rw [take_succ_nat hxl, List.any_append]; simp)
                          have heq : (((l.getD x9 0 : Nat) : Int) == (q : Int)) = (l.getD x9 0 == q) := by
                            by_cases h : l.getD x9 0 = q
                            · rw [h]; simp
                            · rw [beq_eq_false_iff_ne.2 h, beq_eq_false_iff_ne]; omega
                          clear hz
                          generalize l.getD x9 0 = p at *
                          generalize (p == q) = b2 at *
                          generalize (l.take x9).any (fun z => z == q) = b1 at *
                          go_upto_region 28 with (fail)
                          cases b1
                          · go_quiet (fail)
                            have BY2 := Lib.hid (below_drewN BY.out nq)
                            clear q1 q2 zq1 zq2 BY
                            go_wp2_with (fail)
                            go_roundw
                            case rel => exact ⟨x9 + 1, by rw [HAN.out]; rfl, by go_num, by omega, BY2.out⟩
                            case measure => simp [intOf]; omega
                          · go_quiet (fail)
                            have BY2 := Lib.hid (below_drewN BY.out nq)
                            clear q1 q2 zq1 zq2 BY
                            go_wp2_with (fail)
                            go_roundw
                            case rel => exact ⟨x9 + 1, by rw [HAN.out]; rfl, by go_num, by omega, BY2.out⟩
                            case measure => simp [intOf]; omega
                        · have hxl' : ¬ (x9 : Int) < (l.length : Int) := by omega
                          have hany : (l.take x9).any (fun z => z == q) = true := by
                            rw [List.take_of_length_le (by omega), List.any_eq_true]
                            exact ⟨q, HYM.out, by simp⟩
                          rw [hany]
                          clear hany
                          go_wp2_with (fail)
                          go_roundw
                          case rel => exact ⟨j + 1, by go_num, by omega, BY.out⟩
                          case measure => simp [intOf]; omega
                    · have hjM' : ¬ (j : Int) < (M.length : Int) := by omega
                      have BN := Lib.hid (below_trans BEL2.out BZ.out)
                      go_wp2_with (fail)
                      go_roundw
                      case rel => exact ⟨i + 1, by go_num, by omega, BN.out⟩
                      case measure => simp [intOf]; omega
                exact AllReadyH.nil
              exact AllReadyH.nil
            · have hil' : ¬ (i : Int) < (l.length : Int) := by omega
              have BTW := Lib.hid (below_trans BT5.out BEL.out)
              go_wp2_with (fail)
              refine (sure_walk _).mono ?_
              rintro y w10 ⟨rfl, B10⟩
              have B11 := below_trans BTW.out B10
              go_wp2
              go_ret
              exact ⟨rfl, B11⟩
        · rintro ⟨rfl, rfl⟩
          clear cont2
          go_upto_region 16 with (fail)
          go_loopw [14, 15, 16, 17, 18, 19] (fun iv _ _ _ _ _ wl => ∃ i : Nat, iv = .int .i64 i ∧ i ≤ l.length ∧ Below w5.heap.size w5 wl) (fun iv _ _ _ _ _ _ => l.length - (intOf iv).toNat)
          case atStart => exact ⟨0, rfl, Nat.zero_le _, Below.refl _ _⟩
          case round =>
            obtain ⟨wl, rfl⟩ : ∃ Z, Z = wr := ⟨_, rfl⟩
            obtain ⟨i, rfl, hi, bel⟩ := hrel
            have i0 : (0 : Int) ≤ i := by omega
            have BEL := Lib.hid bel
            clear bel
            by_cases hil : i < l.length
            · have hil' : (i : Int) < (l.length : Int) := by omega
              have HRW := Lib.hid ((HRL5.out.below BEL.out (Nat.le_refl _)).wider BEL.out.size)
              obtain ⟨gl, ol, e1, y0⟩ := HRW.out.cell (i := i) (by simp; exact hil)
              subst e1
              have hx : (l.map (fun (x : Nat) => (x : Int))).getD i 0 = ((l.getD i 0 : Nat) : Int) := by simp [List.getD_eq_getElem?_getD, hil]
              rw [hx] at y0
              have hxm := HMEM.out (l.getD i 0) (by rw [List.getD_eq_getElem?_getD, List.getElem?_eq_getElem hil]; exact List.getElem_mem _)
              generalize l.getD i 0 = x at *
              have z0 := World.block_lt_of_cell? _ _ y0
              have BTW := Lib.hid (below_trans BT5.out BEL.out)
              have hme : mastersE D N x = 0 := by unfold mastersE; rw [if_neg (by omega)]; exact checkE_of hl60 HRG.out (by omega)
              have hml : mastersL D N x = (List.range N).filter (rounds (ED D) x (N + 1)) := by unfold mastersL; rw [if_pos hme, Int.toNat_natCast, Int.toNat_natCast]
              have HSUB := Lib.hid (show ∀ y, y ∈ mastersL D N x → y ∈ l from fun y hy => by
                rw [hml] at hy
                obtain ⟨h1, h2⟩ := List.mem_filter.1 hy
                exact HIN.out y (List.mem_range.1 h1) (masters_sub HEB.out hxm.2 h2))
              have GV := Lib.hid (fun w' (hb : Below wl.heap.size wl w') => give_walk (.slice A D.length cap) D w' ((HD.out.below (below_trans BTW.out hb) (Nat.le_refl _)).wider (below_trans BTW.out hb).size) hl60)
              have MS := Lib.hid (show ∀ v1 w1 w' (own1 : w1.ownsRow wl.heap.size 64 3 v1 D.length (cellsD D)) (hb : Below w1.heap.size w1 w'), Calls Tryd.prog 15 #[v1, .int .i64 (N : Int), .int .i64 (x : Int)] w' (fun y w2 => (∃ v, y = .returned (.tuple #[v, .nilIface]) ∧ RdI w2 v w2.heap.size ((mastersL D N x).map (fun (x : Nat) => (x : Int))) ∧ (mastersL D N x).length ≤ 1024) ∧ Below w'.heap.size w' w2) from fun v1 w1 w' own1 hb => (masters_walk v1 D (N : Int) (x : Int) w' (((RdD.of_owns own1 rfl (Nat.le_refl _)).below hb (Nat.le_refl _)).wider hb.size) hl60).mono fun y w2 h => by
                unfold MastersSaid at h
                rw [hme, errI_zero] at h
                exact h)
              generalize mastersL D N x = M at *
              clear hme hml hx hxm
              go_upto_region 18 with (fail)
              refine wp_region_noPanic ?_
              refine wp_region_held_drew (S := (fun w' => Below wl.heap.size wl w')) (by kernel_rfl) ?_ (fun hHeld => ?_)
              · exact below_drewN (Below.refl _ _) 1
              refine reg_take (i := 0) (oi := _) (v := ?_) rfl (by kernel_rfl) (by kernel_rfl) (by kernel_rfl) (fun _ _ _ h => h) (by rfl) ?_ (by assumption) ?_
              rotate_left
              · intro w hSw; (try dsimp only at hSw); replace y0 := bel_cell hSw y0; replace z0 := Nat.lt_of_lt_of_le z0 hSw.size; go_simp; try with_reducible rfl
              (try simp only [Act.put, List.setIfInBounds_toArray, List.set_cons_zero, List.set_cons_succ])
              refine reg_take (i := 2) (oi := _) (v := ?_) rfl (by kernel_rfl) (by kernel_rfl) (by kernel_rfl) (fun _ _ _ h => h) (by rfl) ?_ (by assumption) ?_
              rotate_left
              · intro w hSw; (try dsimp only at hSw); replace y0 := bel_cell hSw y0; replace z0 := Nat.lt_of_lt_of_le z0 hSw.size; go_simp; try with_reducible rfl
              (try simp only [Act.put, List.setIfInBounds_toArray, List.set_cons_zero, List.set_cons_succ])
              refine reg_take (i := 3) (oi := _) (v := ?_) rfl (by kernel_rfl) (by kernel_rfl) (by kernel_rfl) (fun _ _ _ h => h) (by rfl) ?_ (by assumption) ?_
              rotate_left
              · intro w hSw; (try dsimp only at hSw); replace y0 := bel_cell hSw y0; replace z0 := Nat.lt_of_lt_of_le z0 hSw.size; go_simp; try with_reducible rfl
              (try simp only [Act.put, List.setIfInBounds_toArray, List.set_cons_zero, List.set_cons_succ])
              refine reg_take (i := 4) (oi := _) (v := ?_) rfl (by kernel_rfl) (by kernel_rfl) (by kernel_rfl) (fun _ _ _ h => h) (by rfl) ?_ (by assumption) ?_
              rotate_left
              · intro w hSw; (try dsimp only at hSw); replace y0 := bel_cell hSw y0; replace z0 := Nat.lt_of_lt_of_le z0 hSw.size; go_simp; try with_reducible rfl
              (try simp only [Act.put, List.setIfInBounds_toArray, List.set_cons_zero, List.set_cons_succ])
              refine reg_take (i := 5) (oi := _) (v := ?_) rfl (by kernel_rfl) (by kernel_rfl) (by kernel_rfl) (fun _ _ _ h => h) (by rfl) ?_ (by assumption) ?_
              rotate_left
              · intro w hSw; (try dsimp only at hSw); replace y0 := bel_cell hSw y0; replace z0 := Nat.lt_of_lt_of_le z0 hSw.size; go_simp; try with_reducible rfl
              (try simp only [Act.put, List.setIfInBounds_toArray, List.set_cons_zero, List.set_cons_succ])
              refine reg_take (i := 6) (oi := _) (v := ?_) rfl (by kernel_rfl) (by kernel_rfl) (by kernel_rfl) (fun _ _ _ h => h) (by rfl) ?_ (by assumption) ?_
              rotate_left
              · intro w hSw; (try dsimp only at hSw); replace y0 := bel_cell hSw y0; replace z0 := Nat.lt_of_lt_of_le z0 hSw.size; go_simp; try with_reducible rfl
              (try simp only [Act.put, List.setIfInBounds_toArray, List.set_cons_zero, List.set_cons_succ])
              refine wpAnyH_ready (rs := [1]) (by kernel_rfl) (by simp) ?_
              refine reg_each (o := _) rfl (fun K hK => ?_) ?_
              · skip
                go_simp
                refine (GV.out _ hHeld).mono ?_
                rintro q w1 ⟨⟨v1, rfl, hown⟩, hb⟩
                have B1 := Lib.hid (below_trans hHeld hb)
                have OW1 := Lib.hid (owns_mono hown hHeld.size)
                clear hown hb
                go_wp2_with (fail)
                refine hK.out _ _ ?_ (fun hHeld2 => ?_)
                · exact B1.out
                clear hK K hHeld
                have hHeld := hHeld2
                clear hHeld2
                (try simp only [Act.put, List.setIfInBounds_toArray, List.set_cons_zero, List.set_cons_succ])
                have hBg := Lib.hid hHeld
                refine wpAnyH_ready (rs := [7]) (by kernel_rfl) (by simp) ?_
                refine reg_each (o := _) rfl (fun K hK => ?_) ?_
                · skip
                  go_simp
                  refine (MS.out v1 w1 _ OW1.out (Below.refl _ _)).mono ?_
                  rintro q w2' ⟨⟨v2, rfl, hr2, hn2⟩, hb2⟩
                  have HM2 := Lib.hid hr2
                  have B2 := Lib.hid (below_trans B1.out hb2)
                  clear hr2
                  go_wp2_with (fail)
                  refine hK.out _ _ ?_ (fun hHeld2 => ?_)
                  · exact B2.out
                  clear hK K hHeld
                  have hHeld := hHeld2
                  clear hHeld2
                  (try simp only [Act.put, List.setIfInBounds_toArray, List.set_cons_zero, List.set_cons_succ])
                  refine reg_take (i := 8) (oi := _) (v := ?_) rfl (by kernel_rfl) (by kernel_rfl) (by kernel_rfl) (fun _ _ _ h => h) (by rfl) ?_ (by assumption) ?_
                  rotate_left
                  · intro w hSw; (try dsimp only at hSw); replace y0 := bel_cell hSw y0; replace z0 := Nat.lt_of_lt_of_le z0 hSw.size; go_simp; try with_reducible rfl
                  (try simp only [Act.put, List.setIfInBounds_toArray, List.set_cons_zero, List.set_cons_succ])
                  refine reg_take (i := 9) (oi := _) (v := ?_) rfl (by kernel_rfl) (by kernel_rfl) (by kernel_rfl) (fun _ _ _ h => h) (by rfl) ?_ (by assumption) ?_
                  rotate_left
                  · intro w hSw; (try dsimp only at hSw); replace y0 := bel_cell hSw y0; replace z0 := Nat.lt_of_lt_of_le z0 hSw.size; go_simp; try with_reducible rfl
                  (try simp only [Act.put, List.setIfInBounds_toArray, List.set_cons_zero, List.set_cons_succ])
                  refine reg_take (i := 10) (oi := _) (v := ?_) rfl (by kernel_rfl) (by kernel_rfl) (by kernel_rfl) (fun _ _ _ h => h) (by rfl) ?_ (by assumption) ?_
                  rotate_left
                  · intro w hSw; (try dsimp only at hSw); replace y0 := bel_cell hSw y0; replace z0 := Nat.lt_of_lt_of_le z0 hSw.size; go_simp; try with_reducible rfl
                  (try simp only [Act.put, List.setIfInBounds_toArray, List.set_cons_zero, List.set_cons_succ])
                  refine reg_take (i := 11) (oi := _) (v := ?_) rfl (by kernel_rfl) (by kernel_rfl) (by kernel_rfl) (fun _ _ _ h => h) (by rfl) ?_ (by assumption) ?_
                  rotate_left
                  · intro w hSw; (try dsimp only at hSw); replace y0 := bel_cell hSw y0; replace z0 := Nat.lt_of_lt_of_le z0 hSw.size; go_simp; try with_reducible rfl
                  (try simp only [Act.put, List.setIfInBounds_toArray, List.set_cons_zero, List.set_cons_succ])
                  refine reg_take (i := 12) (oi := _) (v := ?_) rfl (by kernel_rfl) (by kernel_rfl) (by kernel_rfl) (fun _ _ _ h => h) (by rfl) ?_ (by assumption) ?_
                  rotate_left
                  · intro w hSw; (try dsimp only at hSw); replace y0 := bel_cell hSw y0; replace z0 := Nat.lt_of_lt_of_le z0 hSw.size; go_simp; try with_reducible rfl
                  (try simp only [Act.put, List.setIfInBounds_toArray, List.set_cons_zero, List.set_cons_succ])
                  refine wpAnyH_done (by kernel_rfl) ?_ _
                  refine NoPanic.normal ?_
                  replace y0 := trivial
                  clear y0 z0 hHeld hBg GV MS OW1 B1
                  obtain ⟨A9, c9, rfl⟩ := HM2.out.form
                  have HRX := Lib.hid ((HRW.out.below B2.out (Nat.le_refl _)).wider B2.out.size)
                  have BEL2 := Lib.hid (below_trans BEL.out B2.out)
                  have hmM : (M.map (fun (x : Nat) => (x : Int))).length = M.length := by simp
                  have HM3 := HM2
                  rw [hmM]
                  clear HM2 HRW BEL B2
                  go_upto_region 22 with (fail)
                  go_loopw [17, 18, 19] (fun jv _ _ wz => ∃ j : Nat, jv = .int .i64 j ∧ j ≤ M.length ∧ Below w2'.heap.size w2' wz) (fun jv _ _ _ => M.length - (intOf jv).toNat)
                  case atStart => exact ⟨0, rfl, Nat.zero_le _, Below.refl _ _⟩
                  case round =>
                    obtain ⟨wz, rfl⟩ : ∃ Z, Z = wr := ⟨_, rfl⟩
                    obtain ⟨j, rfl, hj, bel⟩ := hrel
                    have j0 : (0 : Int) ≤ j := by omega
                    have BZ := Lib.hid bel
                    clear bel
                    by_cases hjM : j < M.length
                    · have hjM' : (j : Int) < (M.length : Int) := by omega
                      have hy : (M.map (fun (x : Nat) => (x : Int))).getD j 0 = ((M.getD j 0 : Nat) : Int) := by simp [List.getD_eq_getElem?_getD, hjM]
                      have HY := Lib.hid hy
                      have hym := HSUB.out (M.getD j 0) (by rw [List.getD_eq_getElem?_getD, List.getElem?_eq_getElem hjM]; exact List.getElem_mem _)
                      have HYM := Lib.hid hym
                      clear hy hym
                      generalize hq : M.getD j 0 = q at *
                      clear hq
                      go_upto_region 26 with (fail)
                      go_loopw [18, 19] (fun sv xv wy => ∃ x : Nat, sv = .bool ((l.take x).any (fun z => z == q)) ∧ xv = .int .i64 x ∧ x ≤ l.length ∧ Below w2'.heap.size w2' wy) (fun _ xv _ => l.length - (intOf xv).toNat)
                      case atStart => exact ⟨0, rfl, rfl, Nat.zero_le _, BZ.out⟩
                      case round =>
                        clear BZ
                        obtain ⟨wy, rfl⟩ : ∃ Z, Z = wr := ⟨_, rfl⟩
                        obtain ⟨x9, rfl, rfl, hx9, bel⟩ := hrel
                        have x0 : (0 : Int) ≤ x9 := by omega
                        have BY := Lib.hid bel
                        clear bel
                        by_cases hxl : x9 < l.length
                        · have hxl' : (x9 : Int) < (l.length : Int) := by omega
                          obtain ⟨g1, o1, e1, q1⟩ := ((HRX.out.below BY.out (Nat.le_refl _)).wider BY.out.size).cell (i := x9) (by simp; exact hxl)
                          obtain ⟨g2, o2, e2, q2⟩ := ((HM3.out.below BY.out (Nat.le_refl _)).wider BY.out.size).cell (i := j) (by simp; exact hjM)
                          cases e1
                          subst e2
                          rw [HY.out] at q2
                          have hz : (l.map (fun (x : Nat) => (x : Int))).getD x9 0 = ((l.getD x9 0 : Nat) : Int) := by simp [List.getD_eq_getElem?_getD, hxl]
                          rw [hz] at q1
                          have zq1 := World.block_lt_of_cell? _ _ q1
                          have zq2 := World.block_lt_of_cell? _ _ q2
                          have HAN := Lib.hid (show (l.take (x9 + 1)).any (fun z => z == q) = ((l.take x9).any (fun z => z == q) || (l.getD x9 0 == q)) by rw [take_succ_nat hxl, List.any_append]; simp)
                          have heq : (((l.getD x9 0 : Nat) : Int) == (q : Int)) = (l.getD x9 0 == q) := by
                            by_cases h : l.getD x9 0 = q
                            · rw [h]; simp
                            · rw [beq_eq_false_iff_ne.2 h, beq_eq_false_iff_ne]; omega
                          clear hz
                          generalize l.getD x9 0 = p at *
                          generalize (p == q) = b2 at *
                          generalize (l.take x9).any (fun z => z == q) = b1 at *
                          go_upto_region 28 with (fail)
                          cases b1
                          · go_quiet (fail)
                            have BY2 := Lib.hid (below_drewN BY.out nq)
                            clear q1 q2 zq1 zq2 BY
                            go_wp2_with (fail)
                            go_roundw
                            case rel => exact ⟨x9 + 1, by rw [HAN.out]; rfl, by go_num, by omega, BY2.out⟩
                            case measure => simp [intOf]; omega
                          · go_quiet (fail)
                            have BY2 := Lib.hid (below_drewN BY.out nq)
                            clear q1 q2 zq1 zq2 BY
                            go_wp2_with (fail)
                            go_roundw
                            case rel => exact ⟨x9 + 1, by rw [HAN.out]; rfl, by go_num, by omega, BY2.out⟩
                            case measure => simp [intOf]; omega
                        · have hxl' : ¬ (x9 : Int) < (l.length : Int) := by omega
                          have hany : (l.take x9).any (fun z => z == q) = true := by
                            rw [List.take_of_length_le (by omega), List.any_eq_true]
                            exact ⟨q, HYM.out, by simp⟩
                          rw [hany]
                          clear hany
                          go_wp2_with (fail)
                          go_roundw
                          case rel => exact ⟨j + 1, by go_num, by omega, BY.out⟩
                          case measure => simp [intOf]; omega
                    · have hjM' : ¬ (j : Int) < (M.length : Int) := by omega
                      have BN := Lib.hid (below_trans BEL2.out BZ.out)
                      go_wp2_with (fail)
                      go_roundw
                      case rel => exact ⟨i + 1, by go_num, by omega, BN.out⟩
                      case measure => simp [intOf]; omega
                exact AllReadyH.nil
              exact AllReadyH.nil
            · have hil' : ¬ (i : Int) < (l.length : Int) := by omega
              have BTW := Lib.hid (below_trans BT5.out BEL.out)
              go_wp2_with (fail)
              refine (sure_walk _).mono ?_
              rintro y w10 ⟨rfl, B10⟩
              have B11 := below_trans BTW.out B10
              go_wp2
              go_ret
              exact ⟨rfl, B11⟩
        · rintro ⟨e, rfl⟩
          clear cont2
          go_upto_region 16 with (fail)
          go_loopw [14, 15, 16, 17, 18, 19] (fun iv _ _ _ _ _ wl => ∃ i : Nat, iv = .int .i64 i ∧ i ≤ l.length ∧ Below w5.heap.size w5 wl) (fun iv _ _ _ _ _ _ => l.length - (intOf iv).toNat)
          case atStart => exact ⟨0, rfl, Nat.zero_le _, Below.refl _ _⟩
          case round =>
            obtain ⟨wl, rfl⟩ : ∃ Z, Z = wr := ⟨_, rfl⟩
            obtain ⟨i, rfl, hi, bel⟩ := hrel
            have i0 : (0 : Int) ≤ i := by omega
            have BEL := Lib.hid bel
            clear bel
            by_cases hil : i < l.length
            · have hil' : (i : Int) < (l.length : Int) := by omega
              have HRW := Lib.hid ((HRL5.out.below BEL.out (Nat.le_refl _)).wider BEL.out.size)
              obtain ⟨gl, ol, e1, y0⟩ := HRW.out.cell (i := i) (by simp; exact hil)
              subst e1
              have hx : (l.map (fun (x : Nat) => (x : Int))).getD i 0 = ((l.getD i 0 : Nat) : Int) := by simp [List.getD_eq_getElem?_getD, hil]
              rw [hx] at y0
              have hxm := HMEM.out (l.getD i 0) (by rw [List.getD_eq_getElem?_getD, List.getElem?_eq_getElem hil]; exact List.getElem_mem _)
              generalize l.getD i 0 = x at *
              have z0 := World.block_lt_of_cell? _ _ y0
              have BTW := Lib.hid (below_trans BT5.out BEL.out)
              have hme : mastersE D N x = 0 := by unfold mastersE; rw [if_neg (by omega)]; exact checkE_of hl60 HRG.out (by omega)
              have hml : mastersL D N x = (List.range N).filter (rounds (ED D) x (N + 1)) := by unfold mastersL; rw [if_pos hme, Int.toNat_natCast, Int.toNat_natCast]
              have HSUB := Lib.hid (show ∀ y, y ∈ mastersL D N x → y ∈ l from fun y hy => by
                rw [hml] at hy
                obtain ⟨h1, h2⟩ := List.mem_filter.1 hy
                exact HIN.out y (List.mem_range.1 h1) (masters_sub HEB.out hxm.2 h2))
              have GV := Lib.hid (fun w' (hb : Below wl.heap.size wl w') => give_walk (.slice A D.length cap) D w' ((HD.out.below (below_trans BTW.out hb) (Nat.le_refl _)).wider (below_trans BTW.out hb).size) hl60)
              have MS := Lib.hid (show ∀ v1 w1 w' (own1 : w1.ownsRow wl.heap.size 64 3 v1 D.length (cellsD D)) (hb : Below w1.heap.size w1 w'), Calls Tryd.prog 15 #[v1, .int .i64 (N : Int), .int .i64 (x : Int)] w' (fun y w2 => (∃ v, y = .returned (.tuple #[v, .nilIface]) ∧ RdI w2 v w2.heap.size ((mastersL D N x).map (fun (x : Nat) => (x : Int))) ∧ (mastersL D N x).length ≤ 1024) ∧ Below w'.heap.size w' w2) from fun v1 w1 w' own1 hb => (masters_walk v1 D (N : Int) (x : Int) w' (((RdD.of_owns own1 rfl (Nat.le_refl _)).below hb (Nat.le_refl _)).wider hb.size) hl60).mono fun y w2 h => by
                unfold MastersSaid at h
                rw [hme, errI_zero] at h
                exact h)
              generalize mastersL D N x = M at *
              clear hme hml hx hxm
              go_upto_region 18 with (fail)
              refine wp_region_noPanic ?_
              refine wp_region_held_drew (S := (fun w' => Below wl.heap.size wl w')) (by kernel_rfl) ?_ (fun hHeld => ?_)
              · exact below_drewN (Below.refl _ _) 1
              refine reg_take (i := 0) (oi := _) (v := ?_) rfl (by kernel_rfl) (by kernel_rfl) (by kernel_rfl) (fun _ _ _ h => h) (by rfl) ?_ (by assumption) ?_
              rotate_left
              · intro w hSw; (try dsimp only at hSw); replace y0 := bel_cell hSw y0; replace z0 := Nat.lt_of_lt_of_le z0 hSw.size; go_simp; try with_reducible rfl
              (try simp only [Act.put, List.setIfInBounds_toArray, List.set_cons_zero, List.set_cons_succ])
              refine reg_take (i := 2) (oi := _) (v := ?_) rfl (by kernel_rfl) (by kernel_rfl) (by kernel_rfl) (fun _ _ _ h => h) (by rfl) ?_ (by assumption) ?_
              rotate_left
              · intro w hSw; (try dsimp only at hSw); replace y0 := bel_cell hSw y0; replace z0 := Nat.lt_of_lt_of_le z0 hSw.size; go_simp; try with_reducible rfl
              (try simp only [Act.put, List.setIfInBounds_toArray, List.set_cons_zero, List.set_cons_succ])
              refine reg_take (i := 3) (oi := _) (v := ?_) rfl (by kernel_rfl) (by kernel_rfl) (by kernel_rfl) (fun _ _ _ h => h) (by rfl) ?_ (by assumption) ?_
              rotate_left
              · intro w hSw; (try dsimp only at hSw); replace y0 := bel_cell hSw y0; replace z0 := Nat.lt_of_lt_of_le z0 hSw.size; go_simp; try with_reducible rfl
              (try simp only [Act.put, List.setIfInBounds_toArray, List.set_cons_zero, List.set_cons_succ])
              refine reg_take (i := 4) (oi := _) (v := ?_) rfl (by kernel_rfl) (by kernel_rfl) (by kernel_rfl) (fun _ _ _ h => h) (by rfl) ?_ (by assumption) ?_
              rotate_left
              · intro w hSw; (try dsimp only at hSw); replace y0 := bel_cell hSw y0; replace z0 := Nat.lt_of_lt_of_le z0 hSw.size; go_simp; try with_reducible rfl
              (try simp only [Act.put, List.setIfInBounds_toArray, List.set_cons_zero, List.set_cons_succ])
              refine reg_take (i := 5) (oi := _) (v := ?_) rfl (by kernel_rfl) (by kernel_rfl) (by kernel_rfl) (fun _ _ _ h => h) (by rfl) ?_ (by assumption) ?_
              rotate_left
              · intro w hSw; (try dsimp only at hSw); replace y0 := bel_cell hSw y0; replace z0 := Nat.lt_of_lt_of_le z0 hSw.size; go_simp; try with_reducible rfl
              (try simp only [Act.put, List.setIfInBounds_toArray, List.set_cons_zero, List.set_cons_succ])
              refine reg_take (i := 6) (oi := _) (v := ?_) rfl (by kernel_rfl) (by kernel_rfl) (by kernel_rfl) (fun _ _ _ h => h) (by rfl) ?_ (by assumption) ?_
              rotate_left
              · intro w hSw; (try dsimp only at hSw); replace y0 := bel_cell hSw y0; replace z0 := Nat.lt_of_lt_of_le z0 hSw.size; go_simp; try with_reducible rfl
              (try simp only [Act.put, List.setIfInBounds_toArray, List.set_cons_zero, List.set_cons_succ])
              refine wpAnyH_ready (rs := [1]) (by kernel_rfl) (by simp) ?_
              refine reg_each (o := _) rfl (fun K hK => ?_) ?_
              · skip
                go_simp
                refine (GV.out _ hHeld).mono ?_
                rintro q w1 ⟨⟨v1, rfl, hown⟩, hb⟩
                have B1 := Lib.hid (below_trans hHeld hb)
                have OW1 := Lib.hid (owns_mono hown hHeld.size)
                clear hown hb
                go_wp2_with (fail)
                refine hK.out _ _ ?_ (fun hHeld2 => ?_)
                · exact B1.out
                clear hK K hHeld
                have hHeld := hHeld2
                clear hHeld2
                (try simp only [Act.put, List.setIfInBounds_toArray, List.set_cons_zero, List.set_cons_succ])
                have hBg := Lib.hid hHeld
                refine wpAnyH_ready (rs := [7]) (by kernel_rfl) (by simp) ?_
                refine reg_each (o := _) rfl (fun K hK => ?_) ?_
                · skip
                  go_simp
                  refine (MS.out v1 w1 _ OW1.out (Below.refl _ _)).mono ?_
                  rintro q w2' ⟨⟨v2, rfl, hr2, hn2⟩, hb2⟩
                  have HM2 := Lib.hid hr2
                  have B2 := Lib.hid (below_trans B1.out hb2)
                  clear hr2
                  go_wp2_with (fail)
                  refine hK.out _ _ ?_ (fun hHeld2 => ?_)
                  · exact B2.out
                  clear hK K hHeld
                  have hHeld := hHeld2
                  clear hHeld2
                  (try simp only [Act.put, List.setIfInBounds_toArray, List.set_cons_zero, List.set_cons_succ])
                  refine reg_take (i := 8) (oi := _) (v := ?_) rfl (by kernel_rfl) (by kernel_rfl) (by kernel_rfl) (fun _ _ _ h => h) (by rfl) ?_ (by assumption) ?_
                  rotate_left
                  · intro w hSw; (try dsimp only at hSw); replace y0 := bel_cell hSw y0; replace z0 := Nat.lt_of_lt_of_le z0 hSw.size; go_simp; try with_reducible rfl
                  (try simp only [Act.put, List.setIfInBounds_toArray, List.set_cons_zero, List.set_cons_succ])
                  refine reg_take (i := 9) (oi := _) (v := ?_) rfl (by kernel_rfl) (by kernel_rfl) (by kernel_rfl) (fun _ _ _ h => h) (by rfl) ?_ (by assumption) ?_
                  rotate_left
                  · intro w hSw; (try dsimp only at hSw); replace y0 := bel_cell hSw y0; replace z0 := Nat.lt_of_lt_of_le z0 hSw.size; go_simp; try with_reducible rfl
                  (try simp only [Act.put, List.setIfInBounds_toArray, List.set_cons_zero, List.set_cons_succ])
                  refine reg_take (i := 10) (oi := _) (v := ?_) rfl (by kernel_rfl) (by kernel_rfl) (by kernel_rfl) (fun _ _ _ h => h) (by rfl) ?_ (by assumption) ?_
                  rotate_left
                  · intro w hSw; (try dsimp only at hSw); replace y0 := bel_cell hSw y0; replace z0 := Nat.lt_of_lt_of_le z0 hSw.size; go_simp; try with_reducible rfl
                  (try simp only [Act.put, List.setIfInBounds_toArray, List.set_cons_zero, List.set_cons_succ])
                  refine reg_take (i := 11) (oi := _) (v := ?_) rfl (by kernel_rfl) (by kernel_rfl) (by kernel_rfl) (fun _ _ _ h => h) (by rfl) ?_ (by assumption) ?_
                  rotate_left
                  · intro w hSw; (try dsimp only at hSw); replace y0 := bel_cell hSw y0; replace z0 := Nat.lt_of_lt_of_le z0 hSw.size; go_simp; try with_reducible rfl
                  (try simp only [Act.put, List.setIfInBounds_toArray, List.set_cons_zero, List.set_cons_succ])
                  refine reg_take (i := 12) (oi := _) (v := ?_) rfl (by kernel_rfl) (by kernel_rfl) (by kernel_rfl) (fun _ _ _ h => h) (by rfl) ?_ (by assumption) ?_
                  rotate_left
                  · intro w hSw; (try dsimp only at hSw); replace y0 := bel_cell hSw y0; replace z0 := Nat.lt_of_lt_of_le z0 hSw.size; go_simp; try with_reducible rfl
                  (try simp only [Act.put, List.setIfInBounds_toArray, List.set_cons_zero, List.set_cons_succ])
                  refine wpAnyH_done (by kernel_rfl) ?_ _
                  refine NoPanic.normal ?_
                  replace y0 := trivial
                  clear y0 z0 hHeld hBg GV MS OW1 B1
                  obtain ⟨A9, c9, rfl⟩ := HM2.out.form
                  have HRX := Lib.hid ((HRW.out.below B2.out (Nat.le_refl _)).wider B2.out.size)
                  have BEL2 := Lib.hid (below_trans BEL.out B2.out)
                  have hmM : (M.map (fun (x : Nat) => (x : Int))).length = M.length := by simp
                  have HM3 := HM2
                  rw [hmM]
                  clear HM2 HRW BEL B2
                  go_upto_region 22 with (fail)
                  go_loopw [17, 18, 19] (fun jv _ _ wz => ∃ j : Nat, jv = .int .i64 j ∧ j ≤ M.length ∧ Below w2'.heap.size w2' wz) (fun jv _ _ _ => M.length - (intOf jv).toNat)
                  case atStart => exact ⟨0, rfl, Nat.zero_le _, Below.refl _ _⟩
                  case round =>
                    obtain ⟨wz, rfl⟩ : ∃ Z, Z = wr := ⟨_, rfl⟩
                    obtain ⟨j, rfl, hj, bel⟩ := hrel
                    have j0 : (0 : Int) ≤ j := by omega
                    have BZ := Lib.hid bel
                    clear bel
                    by_cases hjM : j < M.length
                    · have hjM' : (j : Int) < (M.length : Int) := by omega
                      have hy : (M.map (fun (x : Nat) => (x : Int))).getD j 0 = ((M.getD j 0 : Nat) : Int) := by simp [List.getD_eq_getElem?_getD, hjM]
                      have HY := Lib.hid hy
                      have hym := HSUB.out (M.getD j 0) (by rw [List.getD_eq_getElem?_getD, List.getElem?_eq_getElem hjM]; exact List.getElem_mem _)
                      have HYM := Lib.hid hym
                      clear hy hym
                      generalize hq : M.getD j 0 = q at *
                      clear hq
                      go_upto_region 26 with (fail)
                      go_loopw [18, 19] (fun sv xv wy => ∃ x : Nat, sv = .bool ((l.take x).any (fun z => z == q)) ∧ xv = .int .i64 x ∧ x ≤ l.length ∧ Below w2'.heap.size w2' wy) (fun _ xv _ => l.length - (intOf xv).toNat)
                      case atStart => exact ⟨0, rfl, rfl, Nat.zero_le _, BZ.out⟩
                      case round =>
                        clear BZ
                        obtain ⟨wy, rfl⟩ : ∃ Z, Z = wr := ⟨_, rfl⟩
                        obtain ⟨x9, rfl, rfl, hx9, bel⟩ := hrel
                        have x0 : (0 : Int) ≤ x9 := by omega
                        have BY := Lib.hid bel
                        clear bel
                        by_cases hxl : x9 < l.length
                        · have hxl' : (x9 : Int) < (l.length : Int) := by omega
                          obtain ⟨g1, o1, e1, q1⟩ := ((HRX.out.below BY.out (Nat.le_refl _)).wider BY.out.size).cell (i := x9) (by simp; exact hxl)
                          obtain ⟨g2, o2, e2, q2⟩ := ((HM3.out.below BY.out (Nat.le_refl _)).wider BY.out.size).cell (i := j) (by simp; exact hjM)
                          cases e1
                          subst e2
                          rw [HY.out] at q2
                          have hz : (l.map (fun (x : Nat) => (x : Int))).getD x9 0 = ((l.getD x9 0 : Nat) : Int) := by simp [List.getD_eq_getElem?_getD, hxl]
                          rw [hz] at q1
                          have zq1 := World.block_lt_of_cell? _ _ q1
                          have zq2 := World.block_lt_of_cell? _ _ q2
                          have HAN := Lib.hid (show (l.take (x9 + 1)).any (fun z => z == q) = ((l.take x9).any (fun z => z == q) || (l.getD x9 0 == q)) by rw [take_succ_nat hxl, List.any_append]; simp)
                          have heq : (((l.getD x9 0 : Nat) : Int) == (q : Int)) = (l.getD x9 0 == q) := by
                            by_cases h : l.getD x9 0 = q
                            · rw [h]; simp
                            · rw [beq_eq_false_iff_ne.2 h, beq_eq_false_iff_ne]; omega
                          clear hz
                          generalize l.getD x9 0 = p at *
                          generalize (p == q) = b2 at *
                          generalize (l.take x9).any (fun z => z == q) = b1 at *
                          go_upto_region 28 with (fail)
                          cases b1
                          · go_quiet (fail)
                            have BY2 := Lib.hid (below_drewN BY.out nq)
                            clear q1 q2 zq1 zq2 BY
                            go_wp2_with (fail)
                            go_roundw
                            case rel => exact ⟨x9 + 1, by rw [HAN.out]; rfl, by go_num, by omega, BY2.out⟩
                            case measure => simp [intOf]; omega
                          · go_quiet (fail)
                            have BY2 := Lib.hid (below_drewN BY.out nq)
                            clear q1 q2 zq1 zq2 BY
                            go_wp2_with (fail)
                            go_roundw
                            case rel => exact ⟨x9 + 1, by rw [HAN.out]; rfl, by go_num, by omega, BY2.out⟩
                            case measure => simp [intOf]; omega
                        · have hxl' : ¬ (x9 : Int) < (l.length : Int) := by omega
                          have hany : (l.take x9).any (fun z => z == q) = true := by
                            rw [List.take_of_length_le (by omega), List.any_eq_true]
                            exact ⟨q, HYM.out, by simp⟩
                          rw [hany]
                          clear hany
                          go_wp2_with (fail)
                          go_roundw
                          case rel => exact ⟨j + 1, by go_num, by omega, BY.out⟩
                          case measure => simp [intOf]; omega
                    · have hjM' : ¬ (j : Int) < (M.length : Int) := by omega
                      have BN := Lib.hid (below_trans BEL2.out BZ.out)
                      go_wp2_with (fail)
                      go_roundw
                      case rel => exact ⟨i + 1, by go_num, by omega, BN.out⟩
                      case measure => simp [intOf]; omega
                exact AllReadyH.nil
              exact AllReadyH.nil
            · have hil' : ¬ (i : Int) < (l.length : Int) := by omega
              have BTW := Lib.hid (below_trans BT5.out BEL.out)
              go_wp2_with (fail)
              refine (sure_walk _).mono ?_
              rintro y w10 ⟨rfl, B10⟩
              have B11 := below_trans BTW.out B10
              go_wp2
              go_ret
              exact ⟨rfl, B11⟩
  · have hc5 : checkE D N k = 5 := by
      unfold checkE at hc ⊢
      rw [if_neg (by omega)] at hc ⊢
      split
      · rfl
      · rename_i h; rw [if_neg h] at hc; exact absurd rfl hc
    rw [hme, hc5]
    have heI : errI 5 = .iface 48 (.int .i64 5) := rfl
    have W5 := Lib.hid (num_errI 5 w2 (HG.out.below BT2.out))
    rw [heI] at W5 ⊢
    clear hme hc hc5 HR1
    go_wp2_with (fail)
    refine W5.out.mono ?_
    rintro y w3 ⟨rfl, B3⟩
    have BT3 := Lib.hid (below_trans BT2.out B3)
    clear W5 B3
    go_wp2_with (fail)
    refine (sure_walk _).mono ?_
    rintro y w4 ⟨rfl, B4⟩
    have B5 := below_trans BT3.out B4
    go_wp2
    go_ret
    exact ⟨rfl, B5⟩
end Go.Proofs.YtbnnbhblfclomaaDoor
