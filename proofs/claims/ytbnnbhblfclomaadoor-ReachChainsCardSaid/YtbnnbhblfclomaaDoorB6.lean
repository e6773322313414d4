/- Masters, walked. -/
import Derived.Test.YtbnnbhblfclomaaDoorB4
import Derived.Test.YtbnnbhblfclomaaDoorB5
import Derived.Test.YtbnnbhblfclomaaDoorB2
import Derived.Test.YtbnnbhblfclomaaDoorK2
import Derived.Test.YtbnnbhblfclomaaDoorL9
namespace Go.Proofs.YtbnnbhblfclomaaDoor
open Go.RowKit
set_option linter.unusedSimpArgs false
set_option linter.unusedVariables false
def MastersSaid (D : List Dp) (n of_ : Int) (w : World) (y : Ending) (w' : World) : Prop :=
  (∃ v, y = .returned (.tuple #[v, errI (mastersE D n of_)]) ∧ RdI w' v w'.heap.size ((mastersL D n of_).map (fun (x : Nat) => (x : Int))) ∧ (mastersL D n of_).length ≤ 1024) ∧ Below w.heap.size w w'
theorem cellsN_nats (l : List Nat) : nats l = cellsI (l.map (fun (x : Nat) => (x : Int))) := by unfold nats cellsI; simp
theorem rdi_nats {w : World} {B : Nat} {v : Value} {l : List Nat} (h : w.ownsRow B 3 1 v l.length (nats l)) : RdI w v w.heap.size (l.map (fun (x : Nat) => (x : Int))) := by
  rw [cellsN_nats] at h
  exact RdI.of_owns h (by simp) (Nat.le_refl _)
set_option maxRecDepth 100000 in
set_option maxHeartbeats 16000000 in
theorem masters_walk (v : Value) (D : List Dp) (n of_ : Int) (w : World) (hD : RdD w v w.heap.size D) (hl : D.length ≤ 60) : Calls Tryd.prog 15 #[v, .int .i64 n, .int .i64 of_] w (MastersSaid D n of_ w) := by
  have CK := Lib.hid (check_dw v D n of_ w hD hl)
  obtain ⟨A, cap, rfl⟩ := hD.form
  have HD := Lib.hid hD
  clear hD
  by_cases hn0 : n < 0
  · have hE : mastersE D n of_ = 2 := by unfold mastersE; rw [if_pos (.inl hn0)]
    have hL : mastersL D n of_ = [] := by unfold mastersL; rw [hE]; rfl
    have HS : Hid (∀ v, RdI w v w.heap.size [] → MastersSaid D n of_ w (.returned (.tuple #[v, errI 2])) w) := Lib.hid fun v hv => ⟨⟨v, by rw [hE], by rw [hL]; exact hv, by rw [hL]; exact Nat.zero_le _⟩, Below.refl _ _⟩
    clear hE hL CK
    go_enter Tryd.func15, Tryd.ntmps15
    go_wp2_with (fail)
    go_ret2
    exact HS.out _ (.inl ⟨_, _, rfl, by simp, rfl⟩)
  by_cases hn1 : 1024 < n
  · have hE : mastersE D n of_ = 2 := by unfold mastersE; rw [if_pos (.inr hn1)]
    have hL : mastersL D n of_ = [] := by unfold mastersL; rw [hE]; rfl
    have HS : Hid (∀ v, RdI w v w.heap.size [] → MastersSaid D n of_ w (.returned (.tuple #[v, errI 2])) w) := Lib.hid fun v hv => ⟨⟨v, by rw [hE], by rw [hL]; exact hv, by rw [hL]; exact Nat.zero_le _⟩, Below.refl _ _⟩
    clear hE hL CK
    go_enter Tryd.func15, Tryd.ntmps15
    go_wp2_with (fail)
    go_ret2
    exact HS.out _ (.inl ⟨_, _, rfl, by simp, rfl⟩)
  have hE : mastersE D n of_ = checkE D n of_ := by unfold mastersE; rw [if_neg (by omega)]
  by_cases hc : checkE D n of_ = 0
  · obtain ⟨⟨hof0, hof1⟩, hrng⟩ := check_range (by omega) hc
    rw [hc] at hE CK
    obtain ⟨N, rfl⟩ := Int.eq_ofNat_of_zero_le (show 0 ≤ n by omega)
    obtain ⟨f, rfl⟩ := Int.eq_ofNat_of_zero_le hof0
    have hL : mastersL D N f = (List.range N).filter (rounds (ED D) f (N + 1)) := by unfold mastersL; rw [if_pos hE, Int.toNat_natCast, Int.toNat_natCast]
    have hEB := ED_bound hrng
    have HEB := Lib.hid hEB
    have HRG := Lib.hid hrng
    have HFIN : Hid (∀ w' v seen, (∀ y, seen y = true ↔ Plus (ED D) f y) → w'.ownsRow w.heap.size 3 1 v ((List.range N).filter seen).length (nats ((List.range N).filter seen)) → Below w.heap.size w w' → MastersSaid D N f w (.returned (.tuple #[v, errI 0])) w') := Lib.hid fun w' v seen hs ho hb => by
      have := seen_rounds hEB hs
      subst this
      refine ⟨⟨v, by rw [hE], by rw [hL]; exact rdi_nats ho, ?_⟩, hb⟩
      rw [hL]
      have := filt_len (rounds (ED D) f (N + 1)) N
      omega
    have hf : f < N := by omega
    obtain ⟨i0, hi0, hz0, hz1, hz2⟩ := info_parts info3
    have hmk := fun W => make_bools N (by omega) W
    clear hE hc hL hEB hrng
    go_enter Tryd.func15, Tryd.ntmps15
    go_wp2_with (fail)
    refine CK.out.mono ?_
    rintro x w1 ⟨rfl, B1⟩
    have BH1 := Lib.hid B1
    clear CK B1
    rw [errI_zero]
    have hbs := Lib.hid ((Blk.new w1 4 (boolsA N (fun _ => false))).alloc (.cells #[.int .i64 (f : Int)] 3))
    have hbw := Lib.hid (Blk.new1 w1 (.cells (boolsA N (fun _ => false)) 4) 3 #[.int .i64 (f : Int)])
    have hbl := Lib.hid (below_al (below_al (Below.refl w1.heap.size w1) (.cells (boolsA N (fun _ => false)) 4)) (.cells #[.int .i64 (f : Int)] 3))
    generalize hgs : w1.heap.size = gs at *
    go_upto_region 8 with (fail)
    generalize hW3 : (w1.alloc (Obj.cells (boolsA N fun x => false) 4)).alloc (Obj.cells #[Value.int IntKind.i64 ↑f] 3) = w3 at *
    clear hW3 hmk
    have HD1 := Lib.hid (show RdD w1 (.slice A D.length cap) gs D from hgs ▸ ((HD.out.below BH1.out (Nat.le_refl _)).wider BH1.out.size))
    have hF0 : FRow w3 gs (.slice (some ⟨gs + 1, 0, none⟩) 1 1) [f] := ⟨_, 1, rfl, by simp, by simp [maxLen], .inr ⟨gs + 1, 0, _, rfl, by omega, hbw.out, by simp, fun j x hj => by
      have hj0 : j = 0 := by have := (List.getElem?_eq_some_iff.1 hj).1; simp at this; omega
      subst hj0
      simp at hj; subst hj; rfl⟩⟩
    go_loopg [10, 12, 41] (N + 1) (fun g wv _ _ wr => ∃ Pd Wt seen, g + Pd.length = N + 1 ∧ MB (ED D) f N Pd Wt seen ∧ FRow wr gs wv Wt ∧ wv.ownBlock ≠ some gs ∧ Blk wr gs 4 (boolsA N seen) ∧ Below gs w1 wr)
    case atStart => exact ⟨[], [f], _, by simp, MB.start _ _ _, hF0, by simp [Value.ownBlock], hbs.out, hbl.out⟩
    case round =>
      obtain ⟨wa, rfl⟩ : ∃ Z, Z = wr := ⟨_, rfl⟩
      obtain ⟨Pd, Wt, seen, hgk, hmb, hfr, hob, hbk, bel⟩ := hrel
      have HMB := Lib.hid hmb
      have HFR := Lib.hid hfr
      have HOB := Lib.hid hob
      have HBK := Lib.hid hbk
      have BEL := Lib.hid bel
      clear hmb hfr hob hbk bel hF0 hbs hbw hbl
      cases Wt with
      | nil =>
        obtain ⟨A4, cap4, rfl⟩ := HFR.out.len0
        have HSN := Lib.hid HMB.out.done
        clear HFR HMB HOB
        go_upto_region 19 with (fail)
        go_loopw [13, 14, 15, 71] (fun ov _ _ kv wl => ∃ k : Nat, kv = .int .i64 k ∧ k ≤ N ∧ wl.ownsRow gs 3 1 ov ((List.range k).filter seen).length (nats ((List.range k).filter seen)) ∧ ov.ownBlock ≠ some gs ∧ Blk wl gs 4 (boolsA N seen) ∧ Below gs w1 wl) (fun _ _ _ kv _ => N - (intOf kv).toNat)
        case atStart => exact ⟨0, rfl, Nat.zero_le _, World.ownsRow_nil _ _ _ _, by simp [Value.ownBlock], HBK.out, BEL.out⟩
        case round =>
          obtain ⟨wl, rfl⟩ : ∃ Z, Z = wr := ⟨_, rfl⟩
          obtain ⟨k, rfl, hk, own, hob, hbk, bel⟩ := hrel
          have k0 : (0 : Int) ≤ k := by omega
          have HOW := Lib.hid own
          have HOB := Lib.hid hob
          have HBK := Lib.hid hbk
          have BEL := Lib.hid bel
          clear own hob hbk bel
          by_cases hkn : k < N
          · have hkn' : (k : Int) < (N : Int) := by omega
            have c1 : wl.cell? ⟨gs, k, none⟩ = some (.bool (seen k)) := by rw [HBK.out.cell]; exact boolsA_get seen hkn
            have z1 := World.block_lt_of_cell? _ _ c1
            have hfs := filt_succ seen k
            have hfl := filt_len seen k
            cases hsk : seen k with
            | true =>
              rw [hsk] at c1
              rw [hsk, if_pos rfl] at hfs
              have HFS := Lib.hid hfs
              clear hsk hfs
              generalize hl : (List.range k).filter seen = l at *
              have HHL := Lib.hid hl
              clear hl
              have hva := HOW.out.alloc (.cells #[.int .i64 (k : Int)] 3)
              have hn1 : ∀ u ∈ [Value.int .i64 (k : Int)], u.oneCell' = true := by simp [Value.oneCell']
              have hsz4 : gs ≤ (wl.alloc (.cells #[.int .i64 (k : Int)] 3)).heap.size := by have := HBK.out.lt; simp; omega
              have hnw := Lib.hid (nats_news wl k 3)
              go_wp2_with (at_builtin; refine wpList_append_own_at _ rfl _ _ 26 rfl gs 3 i0 (.int .i64 0) 1 8 Tryd.underlying26 hi0 hz0 hz1 hz2 rfl (by decide) _ l.length (nats l) rfl hva ⟨wl.heap.size, 0, none⟩ 1 1 [.int .i64 (k : Int)] rfl rfl hnw.out hn1 (by simp only [maxLen]; omega) (by omega) hsz4 ?_; intro v3 w4 own4 gr4 nil4 at4)
              have hl4 : l.length + 1 = (l ++ [k]).length := by simp
              rw [← nats_snoc, hl4, ← HFS.out] at own4
              have hn4 : v3.ownBlock ≠ some gs := by
                have hgr := HBK.out.lt
                rcases at4 with c | c
                · rw [c]; exact HOB.out
                · rw [c]; simp; omega
              have hb4 : Blk w4 gs 4 (boolsA N seen) := (gr4.block gs (by have := HBK.out.lt; simp; omega) (Ne.symm HOB.out)).trans (HBK.out.alloc _)
              have B4 := below_grown' (BEL.out.alloc (Nat.le_of_lt HBK.out.lt) (.cells #[.int .i64 (k : Int)] 3)) gr4 (fun e he => (HOW.out.lt e he).1) hsz4
              have HV4 := Lib.hid own4
              have HB4 := Lib.hid hb4
              have HN4 := Lib.hid hn4
              have HL4 := Lib.hid B4
              clear own4 hb4 gr4 nil4 at4 hva hn4 B4 hsz4
              go_wp2_with (fail)
              go_roundw
              case rel => exact ⟨k + 1, by go_num, by omega, HV4.out, HN4.out, HB4.out, HL4.out⟩
              case measure => simp [intOf]; omega
            | false =>
              rw [hsk] at c1
              rw [hsk, if_neg (by simp), List.append_nil] at hfs
              have HFS := Lib.hid hfs
              clear hsk hfs
              go_wp2_with (fail)
              go_roundw
              case rel => exact ⟨k + 1, by go_num, by omega, by rw [HFS.out]; exact HOW.out, HOB.out, HBK.out, BEL.out⟩
              case measure => simp [intOf]; omega
          · have hke : k = N := by omega
            subst hke
            have B9 := Lib.hid (BH1.out.trans (BEL.out.mono (by have := BH1.out.size; omega)))
            have HR := Lib.hid (HFIN.out _ _ seen HSN.out (owns_mono HOW.out (by have := BH1.out.size; omega)) B9.out)
            go_wp2_with (fail)
            go_ret2
            exact HR.out
      | cons x r =>
        obtain ⟨g0, rfl⟩ : ∃ g0, gk = g0 + 1 := ⟨gk - 1, by have := HMB.out.len; simp at this; omega⟩
        obtain ⟨g, o, cap4, rfl, hBg, hgl⟩ := HFR.out.form
        obtain ⟨c1, hrc, hcm, hpop⟩ := HFR.out.pop
        clear hpop
        have hxn : x < N := by
          rcases HMB.out.b x (by simp) with h | h
          · omega
          · exact (HMB.out.a x h).2
        go_upto_region 11 with (fail)
        go_loopw [10, 12, 41] (fun wv _ kv wl => ∃ (k : Nat) (Wt : List Nat) (seen : Nat → Bool), kv = .int .i64 k ∧ k ≤ D.length ∧ MB (ED D) f N Pd (x :: Wt) seen ∧ FRow wl gs wv (x :: Wt) ∧ wv.ownBlock ≠ some gs ∧ Blk wl gs 4 (boolsA N seen) ∧ (∀ j, j < k → (D.getD j dp0).of_.toNat = x → seen (D.getD j dp0).on.toNat = true) ∧ Below gs w1 wl) (fun _ _ kv _ => D.length - (intOf kv).toNat)
        case atStart => exact ⟨0, r, seen, rfl, Nat.zero_le _, HMB.out, HFR.out, HOB.out, HBK.out, fun j hj => by omega, BEL.out⟩
        case round =>
          clear HMB HFR HOB HBK BEL c1 hrc hcm hBg hgl
          obtain ⟨wl, rfl⟩ : ∃ Z, Z = wr := ⟨_, rfl⟩
          obtain ⟨k, Wt, seen, rfl, hk, hmb, hfr, hob, hbk, hdn, bel⟩ := hrel
          have k0 : (0 : Int) ≤ k := by omega
          have HMB := Lib.hid hmb
          have HFR := Lib.hid hfr
          have HOB := Lib.hid hob
          have HBK := Lib.hid hbk
          have HDN := Lib.hid hdn
          have BEL := Lib.hid bel
          obtain ⟨g, o, cap4, rfl, hBg, hgl⟩ := hfr.form
          obtain ⟨c1, hrc, hcm, hpop⟩ := hfr.pop
          have HPOP := Lib.hid hpop
          have hcm' : cap4 ≤ 9223372036854775807 := by simp only [maxLen] at hcm; omega
          clear hmb hfr hob hbk hdn bel hpop
          by_cases hkd : k < D.length
          · have hkd' : (k : Int) < (D.length : Int) := by omega
            obtain ⟨g2, o2, rfl, hg2, d0, d1, d2⟩ := (HD1.out.below BEL.out (Nat.le_refl _)).cell hkd
            have z0 := World.block_lt_of_cell? _ _ d0
            have hmem : D.getD k dp0 ∈ D := by rw [List.getD_eq_getElem?_getD, List.getElem?_eq_getElem hkd]; exact List.getElem_mem _
            have HME := Lib.hid (mem_ED.2 ⟨_, hmem, rfl, rfl⟩)
            obtain ⟨⟨ha0, ha1⟩, hb0, hb1⟩ := HRG.out _ hmem
            have HNX : Hid (∀ sn : Nat → Bool, (∀ y, seen y = true → sn y = true) → ((D.getD k dp0).of_.toNat = x → sn (D.getD k dp0).on.toNat = true) → ∀ j, j < k + 1 → (D.getD j dp0).of_.toNat = x → sn (D.getD j dp0).on.toNat = true) := Lib.hid fun sn h1 h2 j hj he => by
              by_cases h : j = k
              · subst h; exact h2 he
              · exact h1 _ (HDN.out j (by omega) he)
            generalize D.getD k dp0 = d at *
            obtain ⟨a, b, c⟩ := d
            dsimp only at d0 d1 d2 ha0 ha1 hb0 hb1 HME HNX
            obtain ⟨an, rfl⟩ := Int.eq_ofNat_of_zero_le ha0
            obtain ⟨bn, rfl⟩ := Int.eq_ofNat_of_zero_le hb0
            rw [Int.toNat_natCast, Int.toNat_natCast] at HME
            rw [Int.toNat_natCast, Int.toNat_natCast] at HNX
            have han : an < N := by omega
            have B4 := below_al (Below.refl wl.heap.size wl) (.cells #[.int .i64 (an : Int), .int .i64 (bn : Int), .int .i64 c] 64)
            have hB4 := Blk.new wl 64 #[.int .i64 (an : Int), .int .i64 (bn : Int), .int .i64 c]
            have y0 : (wl.alloc (.cells #[.int .i64 (an : Int), .int .i64 (bn : Int), .int .i64 c] 64)).cell? ⟨wl.heap.size, 0, none⟩ = some (.int .i64 (an : Int)) := by rw [hB4.cell]; rfl
            have y1 : (wl.alloc (.cells #[.int .i64 (an : Int), .int .i64 (bn : Int), .int .i64 c] 64)).cell? ⟨wl.heap.size, 1, none⟩ = some (.int .i64 (bn : Int)) := by rw [hB4.cell]; rfl
            have yc := (B4.cell (p := ⟨g, o, none⟩) (World.block_lt_of_cell? _ _ c1)).trans c1
            have hbk4 := HBK.out.alloc (.cells #[.int .i64 (an : Int), .int .i64 (bn : Int), .int .i64 c] 64)
            have ys : (wl.alloc (.cells #[.int .i64 (an : Int), .int .i64 (bn : Int), .int .i64 c] 64)).cell? ⟨gs, an, none⟩ = some (.bool (seen an)) := by rw [hbk4.cell]; exact boolsA_get seen han
            have HF4 := Lib.hid (HFR.out.far (w1 := wl.alloc (.cells #[.int .i64 (an : Int), .int .i64 (bn : Int), .int .i64 c] 64)) (fun k hk => Below.heap_alloc wl _ k (HFR.out.lt k hk).2))
            have HB4 := Lib.hid hbk4
            have BL4 := Lib.hid (BEL.out.alloc (Nat.le_of_lt HBK.out.lt) (.cells #[.int .i64 (an : Int), .int .i64 (bn : Int), .int .i64 c] 64))
            have zy := hB4.lt
            have zc := World.block_lt_of_cell? _ _ yc
            have zs := World.block_lt_of_cell? _ _ ys
            have HME0 := HME
            clear hB4 hbk4 B4 HFR HBK BEL HME
            have HM1 := Lib.hid (fun (he : bn = x) (hs : seen an = false) => HMB.out.push (y := an) (by have := HME0.out; rw [he] at this; exact this) han hs)
            go_upto_region 13 with (fail)
            generalize hW4 : wl.alloc (Obj.cells #[.int .i64 (an : Int), .int .i64 (bn : Int), .int .i64 c] 64) = W4 at *
            clear hW4
            generalize hwq : wl.heap.size = wq at *
            by_cases hbx : bn = x
            · have hbx' : ((bn : Int) == (x : Int)) = true := by simp; omega
              cases hsn : seen an with
              | true =>
                rw [hsn] at ys
                have HN2 := Lib.hid (HNX.out seen (fun _ h => h) (fun _ => hsn))
                clear hbx hsn
                go_quiet (fail)
                have BL5 := Lib.hid (below_drewN BL4.out nq)
                have HF5 := Lib.hid (HF4.out.far (w1 := W4.drewN nq) (fun k hk => rfl))
                have HB5 := Lib.hid (HB4.out.drewN nq)
                clear BL4 HF4 HB4 y0 y1 yc ys zy zc zs
                go_wp2_with (fail)
                go_roundw
                case rel => exact ⟨k + 1, Wt, seen, by go_num, by omega, HMB.out, HF5.out, HOB.out, HB5.out, HN2.out, BL5.out⟩
                case measure => simp [intOf]; omega
              | false =>
                rw [hsn] at ys
                have HM2 := Lib.hid (HM1.out hbx hsn)
                have HN2 := Lib.hid (HNX.out (updB seen an) (fun y h => (updB_iff _ _ _).2 (.inr h)) (fun _ => updB_self _ _))
                clear hbx hsn
                go_quiet (fail)
                have BL5 := Lib.hid (below_drewN BL4.out nq)
                have HF5 := Lib.hid (HF4.out.far (w1 := W4.drewN nq) (fun k hk => rfl))
                have HB5 := Lib.hid (HB4.out.drewN nq)
                have zs5 : gs < (W4.drewN nq).heap.size := HB5.out.lt
                have ys5 : (W4.drewN nq).cell? ⟨gs, an, none⟩ = some (.bool false) := ys
                have y05 : (W4.drewN nq).cell? ⟨wq, 0, none⟩ = some (.int .i64 (an : Int)) := y0
                have fz5 : (W4.drewN nq).frozen? ⟨gs, an, none⟩ = false := HB5.out.frozen an
                have zy5 : wq < (W4.drewN nq).heap.size := zy
                clear BL4 HF4 HB4 y0 y1 yc ys zy zc zs
                generalize W4.drewN nq = W5 at *
                have HB6 := Lib.hid (HB5.out.put an (.bool true) (boolsA_set N an seen))
                have BL6 := Lib.hid (below_set (j := an) BL5.out (.bool true))
                have HF6 := Lib.hid (HF5.out.far (w1 := W5.setCell ⟨gs, an, none⟩ (.bool true)) (fun k hk => Below.heap_setCell W5 ⟨gs, an, none⟩ _ k (fun e => HOB.out (by rw [hk, e]))))
                have y06 : (W5.setCell ⟨gs, an, none⟩ (.bool true)).cell? ⟨wq, 0, none⟩ = some (.int .i64 (an : Int)) := by
                  rw [← y05]
                  exact World.cell?_of_block (a := ⟨wq, 0, none⟩) (Below.heap_setCell W5 ⟨gs, an, none⟩ _ wq (by show wq ≠ gs; omega))
                have zy6 : wq < (W5.setCell ⟨gs, an, none⟩ (.bool true)).heap.size := World.block_lt_of_cell? _ _ y06
                clear HB5 BL5 HF5
                go_upto_region 15 with (fail)
                clear ys5 y05 fz5 zy5 zs5
                generalize W5.setCell ⟨gs, an, none⟩ (.bool true) = W6 at *
                have HF7 := Lib.hid (HF6.out.far (w1 := W6.alloc (.cells #[.int .i64 (an : Int)] 3)) (fun k hk => Below.heap_alloc W6 _ k (HF6.out.lt k hk).2))
                have HB7 := Lib.hid (HB6.out.alloc (.cells #[.int .i64 (an : Int)] 3))
                have BL7 := Lib.hid (BL6.out.alloc (Nat.le_of_lt HB6.out.lt) (.cells #[.int .i64 (an : Int)] 3))
                have HQ7 := Lib.hid (Blk.new W6 3 #[.int .i64 (an : Int)])
                have hsz7 : gs ≤ (W6.alloc (.cells #[.int .i64 (an : Int)] 3)).heap.size := Nat.le_of_lt HB7.out.lt
                have hwl : (x :: Wt).length ≤ 1048576 := by have := HMB.out.len; simp at this ⊢; omega
                go_wp2_with (at_builtin; refine wpList_append_frow rfl _ _ rfl gs _ (x :: Wt) an W6.heap.size rfl rfl HF7.out HQ7.out hsz7 hwl ?_; intro v8 w8 hf8 gr8 at8)
                have HF8 := Lib.hid (show FRow w8 gs v8 (x :: (Wt ++ [an])) from hf8)
                have HB8 := Lib.hid (show Blk w8 gs 4 (boolsA N (updB seen an)) from (gr8.block gs HB7.out.lt (fun e => HOB.out e.symm)).trans HB7.out)
                have HO8 := Lib.hid (show v8.ownBlock ≠ some gs from by
                  rcases at8 with e | e
                  · rw [e]; exact HOB.out
                  · intro h
                    have h2 := Option.some.inj (e.symm.trans h)
                    have := HB7.out.lt
                    omega)
                have BL8 := Lib.hid (below_grown' BL7.out gr8 (fun k e => (HF7.out.lt k e).1) hsz7)
                clear hf8 gr8 at8 HF7 HB7 BL7 HQ7 HF6 HB6 BL6
                go_wp2_with (fail)
                go_roundw
                case rel => exact ⟨k + 1, Wt ++ [an], updB seen an, by go_num, by omega, HM2.out, HF8.out, HO8.out, HB8.out, HN2.out, BL8.out⟩
                case measure => simp [intOf]; omega
            · have hbx' : ((bn : Int) == (x : Int)) = false := by simp; omega
              have HN2 := Lib.hid (HNX.out seen (fun _ h => h) (fun e => absurd e hbx))
              clear hbx
              go_quiet (fail)
              have BL5 := Lib.hid (below_drewN BL4.out nq)
              have HF5 := Lib.hid (HF4.out.far (w1 := W4.drewN nq) (fun k hk => rfl))
              have HB5 := Lib.hid (HB4.out.drewN nq)
              clear BL4 HF4 HB4 y0 y1 yc ys zy zc zs
              go_wp2_with (fail)
              go_roundw
              case rel => exact ⟨k + 1, Wt, seen, by go_num, by omega, HMB.out, HF5.out, HOB.out, HB5.out, HN2.out, BL5.out⟩
              case measure => simp [intOf]; omega
          · have hkd' : ¬ (k : Int) < (D.length : Int) := by omega
            have HMP := Lib.hid (HMB.out.pop fun y hy => by
              obtain ⟨d, hd, e1, rfl⟩ := mem_ED.1 hy
              obtain ⟨j, hj, rfl⟩ := List.mem_iff_getElem.1 hd
              have := HDN.out j (by omega)
              rw [List.getD_eq_getElem?_getD, List.getElem?_eq_getElem hj, Option.getD_some] at this
              exact this e1)
            have hr1 : (1 : Int) ≤ ((Wt.length + 1 : Nat) : Int) := by omega
            by_cases hc1 : cap4 = 1
            · have hf := HPOP.out
              rw [if_pos hc1, show cap4 - 1 = 0 by omega] at hf
              have HF := Lib.hid hf
              clear hf HPOP
              go_wp2_with (fail)
              go_roundg g0
              case measure => omega
              case rel => exact ⟨Pd ++ [x], Wt, seen, by simp; omega, HMP.out, HF.out, HOB.out, HBK.out, BEL.out⟩
            · have hf := HPOP.out
              rw [if_neg hc1] at hf
              have HF := Lib.hid hf
              clear hf HPOP
              go_wp2_with (fail)
              go_roundg g0
              case measure => omega
              case rel => exact ⟨Pd ++ [x], Wt, seen, by simp; omega, HMP.out, HF.out, HOB.out, HBK.out, BEL.out⟩
  · have hL : mastersL D n of_ = [] := by unfold mastersL; rw [hE, if_neg hc]
    have heI : errI (checkE D n of_) = .iface 48 (.int .i64 (checkE D n of_)) := if_neg hc
    have HS : Hid (∀ v w', RdI w' v w'.heap.size [] → Below w.heap.size w w' → MastersSaid D n of_ w (.returned (.tuple #[v, .iface 48 (.int .i64 (checkE D n of_))])) w') := Lib.hid fun v w' hv hb => ⟨⟨v, by rw [hE, heI], by rw [hL]; exact hv, by rw [hL]; exact Nat.zero_le _⟩, hb⟩
    rw [heI] at CK
    clear hE hL heI hc
    go_enter Tryd.func15, Tryd.ntmps15
    go_wp2_with (fail)
    refine CK.out.mono ?_
    rintro x w1 ⟨rfl, B1⟩
    have BH1 := Lib.hid B1
    clear CK B1
    go_wp2_with (fail)
    go_ret2
    exact HS.out _ _ (.inl ⟨_, _, rfl, by simp, rfl⟩) BH1.out
end Go.Proofs.YtbnnbhblfclomaaDoor
