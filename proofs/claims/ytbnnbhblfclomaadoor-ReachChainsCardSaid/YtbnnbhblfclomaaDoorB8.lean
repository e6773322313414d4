/- The document's Masters. -/
import Derived.Test.YtbnnbhblfclomaaDoorB7
import Derived.Test.YtbnnbhblfclomaaDoorR1
namespace Go.Proofs.YtbnnbhblfclomaaDoor
open Go.RowKit
set_option linter.unusedSimpArgs false
set_option linter.unusedVariables false
def RefMastersSaid (D : List Dp) (n of_ : Int) (w : World) (y : Ending) (w' : World) : Prop :=
  (∃ v, y = .returned (.tuple #[v, .int .i64 (mastersE D n of_)]) ∧ RdI w' v w'.heap.size ((mastersL D n of_).map (fun (x : Nat) => (x : Int))) ∧ (mastersL D n of_).length ≤ 1024) ∧ Below w.heap.size w w'
set_option maxRecDepth 100000 in
set_option maxHeartbeats 16000000 in
theorem refMasters_walk (v : Value) (D : List Dp) (n of_ : Int) (w : World) (hD : RdD w v w.heap.size D) (hl : D.length ≤ 60) : Calls Tryd.prog 16 #[v, .int .i64 n, .int .i64 of_] w (RefMastersSaid D n of_ w) := by
  have CK := Lib.hid (checkD_walk v D n of_ w hD hl)
  obtain ⟨A, cap, rfl⟩ := hD.form
  have HD := Lib.hid hD
  clear hD
  by_cases hn0 : n < 0
  · have hE : mastersE D n of_ = 2 := by unfold mastersE; rw [if_pos (.inl hn0)]
    have hL : mastersL D n of_ = [] := by unfold mastersL; rw [hE]; rfl
    have HS : Hid (∀ v, RdI w v w.heap.size [] → RefMastersSaid D n of_ w (.returned (.tuple #[v, .int .i64 2])) w) := Lib.hid fun v hv => ⟨⟨v, by rw [hE], by rw [hL]; exact hv, by rw [hL]; exact Nat.zero_le _⟩, Below.refl _ _⟩
    clear hE hL CK
    go_enter Tryd.func16, Tryd.ntmps16
    go_wp2_with (fail)
    go_ret2
    exact HS.out _ (.inl ⟨_, _, rfl, by simp, rfl⟩)
  by_cases hn1 : 1024 < n
  · have hE : mastersE D n of_ = 2 := by unfold mastersE; rw [if_pos (.inr hn1)]
    have hL : mastersL D n of_ = [] := by unfold mastersL; rw [hE]; rfl
    have HS : Hid (∀ v, RdI w v w.heap.size [] → RefMastersSaid D n of_ w (.returned (.tuple #[v, .int .i64 2])) w) := Lib.hid fun v hv => ⟨⟨v, by rw [hE], by rw [hL]; exact hv, by rw [hL]; exact Nat.zero_le _⟩, Below.refl _ _⟩
    clear hE hL CK
    go_enter Tryd.func16, Tryd.ntmps16
    go_wp2_with (fail)
    go_ret2
    exact HS.out _ (.inl ⟨_, _, rfl, by simp, rfl⟩)
  have hE : mastersE D n of_ = checkE D n of_ := by unfold mastersE; rw [if_neg (by omega)]
  by_cases hc : checkE D n of_ = 0
  · obtain ⟨⟨hof0, hof1⟩, hrng⟩ := check_range (by omega) hc
    rw [hc] at hE CK
    obtain ⟨N, rfl⟩ := Int.eq_ofNat_of_zero_le (show 0 ≤ n by omega)
    obtain ⟨f, rfl⟩ := Int.eq_ofNat_of_zero_le hof0
    have hL : mastersL D N f = (List.range N).filter (rounds (ED D) f (N + 1)) := by unfold mastersL; rw [if_pos hE, Int.toNat_natCast, Int.toNat_natCast]
    have HRG := Lib.hid hrng
    have HFIN : Hid (∀ w' v, w'.ownsRow w.heap.size 3 1 v ((List.range N).filter (rounds (ED D) f (N + 1))).length (nats ((List.range N).filter (rounds (ED D) f (N + 1)))) → Below w.heap.size w w' → RefMastersSaid D N f w (.returned (.tuple #[v, .int .i64 0])) w') := Lib.hid fun w' v ho hb => by
      refine ⟨⟨v, by rw [hE], by rw [hL]; exact rdi_nats ho, ?_⟩, hb⟩
      rw [hL]
      have := filt_len (rounds (ED D) f (N + 1)) N
      omega
    have hf : f < N := by omega
    obtain ⟨i0, hi0, hz0, hz1, hz2⟩ := info_parts info3
    have hmk := fun W => make_bools N (by omega) W
    have hb0 := Lib.hid (Blk.new w 4 (boolsA N (fun _ => false)))
    have B0 := Lib.hid (below_al (Below.refl w.heap.size w) (.cells (boolsA N (fun _ => false)) 4))
    have n0 : (0 : Int) ≤ (N : Int) := by omega
    have hEl : (ED D).length = D.length := by unfold ED; simp
    have HEL := Lib.hid hEl
    have HEG := Lib.hid (show ∀ j, j < D.length → (ED D)[j]? = some ((D.getD j dp0).of_.toNat, (D.getD j dp0).on.toNat) from fun j hj => by
      unfold ED
      rw [List.getElem?_map, List.getElem?_eq_getElem hj, List.getD_eq_getElem?_getD, List.getElem?_eq_getElem hj]; rfl)
    clear hE hc hL hrng hEl
    go_enter Tryd.func16, Tryd.ntmps16
    go_wp2_with (fail)
    refine CK.out.mono ?_
    rintro x w1 ⟨rfl, rfl⟩
    clear CK
    generalize hgs : w1.heap.size = gs at *
    go_upto_region 8 with (fail)
    generalize w1.alloc (Obj.cells (boolsA N fun x => false) 4) = w3 at *
    clear hmk
    go_loopw [10, 11] (fun kv _ wr => ∃ k : Nat, kv = .int .i64 k ∧ k ≤ N + 1 ∧ Blk wr gs 4 (boolsA N (rounds (ED D) f k)) ∧ Below gs w1 wr) (fun kv _ _ => N + 1 - (intOf kv).toNat)
    case atStart => exact ⟨0, rfl, Nat.zero_le _, hb0.out, B0.out⟩
    case round =>
      clear B0 hb0
      obtain ⟨wo, rfl⟩ : ∃ wo : World, wo = wr := ⟨_, rfl⟩
      obtain ⟨k, rfl, hk, hb, Br⟩ := hrel
      have HB := Lib.hid hb
      have HBr := Lib.hid Br
      clear hb Br
      by_cases hkn : k ≤ N
      · have d0 : (k : Int) ≤ (N : Int) := by omega
        go_upto_region 11 with (fail)
        go_loopw [11] (fun jv wl => ∃ j : Nat, jv = .int .i64 j ∧ j ≤ D.length ∧ Blk wl gs 4 (boolsA N (relT (ED D) f j (rounds (ED D) f k))) ∧ Below gs w1 wl) (fun jv _ => D.length - (intOf jv).toNat)
        case atStart => exact ⟨0, rfl, Nat.zero_le _, by rw [relT_zero]; exact HB.out, HBr.out⟩
        case round =>
          clear HB HBr
          obtain ⟨wl, rfl⟩ : ∃ wo : World, wo = wr := ⟨_, rfl⟩
          obtain ⟨j, rfl, hj, hb, Br⟩ := hrel
          have j0 : (0 : Int) ≤ (j : Int) := by omega
          by_cases hjm : j < D.length
          · have d1 : (j : Int) < (D.length : Int) := by omega
            obtain ⟨g, o, rfl, hg, e0, e1, e2⟩ := (HD.out.below Br (Nat.le_refl _)).cell hjm
            have ze := World.block_lt_of_cell? _ _ e0
            have hmem : D.getD j dp0 ∈ D := by rw [List.getD_eq_getElem?_getD, List.getElem?_eq_getElem hjm]; exact List.getElem_mem _
            obtain ⟨⟨ha0, ha1⟩, hb0, hb1⟩ := HRG.out _ hmem
            have HR := relT_succ (ED D) f j _ _ (rounds (ED D) f k) (HEG.out j hjm)
            generalize D.getD j dp0 = d at *
            obtain ⟨a, b, c⟩ := d
            dsimp only at e0 e1 e2 ha0 ha1 hb0 hb1 HR
            obtain ⟨an, rfl⟩ := Int.eq_ofNat_of_zero_le ha0
            obtain ⟨bn, rfl⟩ := Int.eq_ofNat_of_zero_le hb0
            rw [Int.toNat_natCast, Int.toNat_natCast] at HR
            have HR := Lib.hid HR
            have han : an < N := by omega
            have hbn : bn < N := by omega
            generalize relT (ED D) f j (rounds (ED D) f k) = t at *
            have c2 : wl.cell? ⟨gs, bn, none⟩ = some (.bool (t bn)) := by rw [hb.cell]; exact boolsA_get t hbn
            have c3 : wl.cell? ⟨gs, an, none⟩ = some (.bool (t an)) := by rw [hb.cell]; exact boolsA_get t han
            have f2 := hb.frozen an
            have zb := hb.lt
            have hput := Lib.hid (hb.put an (.bool true) (boolsA_set N an t))
            have Bp := Lib.hid (below_set (j := an) Br (.bool true))
            have HBB := Lib.hid hb
            have HBr := Lib.hid Br
            clear hmem hb Br
            by_cases haf : bn = f
            · have d2 : ((bn : Int) == (f : Int)) = true := by rw [haf]; simp
              have HR2 := Lib.hid (show relax1 f t (bn, an) = updB t an by unfold relax1; rw [if_pos (.inl haf)])
              clear haf
              go_wp2_with (fail)
              go_roundw
              case rel => exact ⟨j + 1, by go_num, by omega, by rw [HR.out, HR2.out]; exact hput.out, Bp.out⟩
              case measure => simp [intOf]; omega
            · have d2 : ((bn : Int) == (f : Int)) = false := by rw [beq_eq_false_iff_ne]; omega
              cases hta : t bn with
              | true =>
                rw [hta] at c2
                have HR2 := Lib.hid (show relax1 f t (bn, an) = updB t an by unfold relax1; rw [if_pos (.inr hta)])
                clear haf hta
                go_wp2_with (fail)
                go_roundw
                case rel => exact ⟨j + 1, by go_num, by omega, by rw [HR.out, HR2.out]; exact hput.out, Bp.out⟩
                case measure => simp [intOf]; omega
              | false =>
                rw [hta] at c2
                have HR2 := Lib.hid (show relax1 f t (bn, an) = t by unfold relax1; rw [if_neg (by rw [hta]; simp; exact haf)])
                clear haf hta
                go_wp2_with (fail)
                go_roundw
                case rel => exact ⟨j + 1, by go_num, by omega, by rw [HR.out, HR2.out]; exact HBB.out, HBr.out⟩
                case measure => simp [intOf]; omega
          · have d1 : ¬ (j : Int) < (D.length : Int) := by omega
            rw [relT_all (ED D) f j _ (by rw [HEL.out]; omega)] at hb
            have HB := Lib.hid (show Blk wl gs 4 (boolsA N (rounds (ED D) f (k + 1))) from hb)
            have HBr := Lib.hid Br
            clear hb Br
            go_wp2_with (fail)
            go_roundw
            case rel => exact ⟨k + 1, by go_num, by omega, HB.out, HBr.out⟩
            case measure => simp [intOf]; omega
      · have d0 : ¬ (k : Int) ≤ (N : Int) := by omega
        have hk' : k = N + 1 := by omega
        rw [hk'] at HB
        generalize rounds (ED D) f (N + 1) = seen at *
        go_upto_region 17 with (fail)
        go_loopw [12, 13] (fun ov kv wl => ∃ k : Nat, kv = .int .i64 k ∧ k ≤ N ∧ wl.ownsRow gs 3 1 ov ((List.range k).filter seen).length (nats ((List.range k).filter seen)) ∧ ov.ownBlock ≠ some gs ∧ Blk wl gs 4 (boolsA N seen) ∧ Below gs w1 wl) (fun _ kv _ => N - (intOf kv).toNat)
        case atStart => exact ⟨0, rfl, Nat.zero_le _, World.ownsRow_nil _ _ _ _, by simp [Value.ownBlock], HB.out, HBr.out⟩
        case round =>
          clear HB HBr
          obtain ⟨wl, rfl⟩ : ∃ Z, Z = wr := ⟨_, rfl⟩
          obtain ⟨k, rfl, hk, own, hob, hbk, bel⟩ := hrel
          have k0 : (0 : Int) ≤ k := by omega
          have HOW := Lib.hid own
          have HOB := Lib.hid hob
          have HBK := Lib.hid hbk
          have BEL := Lib.hid bel
          clear own hob hbk bel
          by_cases hkn : k < N
          · have hkn' : (k : Int) < (N : Int) := by omega
            have c1 : wl.cell? ⟨gs, k, none⟩ = some (.bool (seen k)) := by rw [HBK.out.cell]; exact boolsA_get seen hkn
            have z1 := World.block_lt_of_cell? _ _ c1
            have hfs := filt_succ seen k
            have hfl := filt_len seen k
            cases hsk : seen k with
            | true =>
              rw [hsk] at c1
              rw [hsk, if_pos rfl] at hfs
              have HFS := Lib.hid hfs
              clear hsk hfs
              generalize hl : (List.range k).filter seen = l at *
              have HHL := Lib.hid hl
              clear hl
              have hva := HOW.out.alloc (.cells #[.int .i64 (k : Int)] 3)
              have hn1 : ∀ u ∈ [Value.int .i64 (k : Int)], u.oneCell' = true := by simp [Value.oneCell']
              have hsz4 : gs ≤ (wl.alloc (.cells #[.int .i64 (k : Int)] 3)).heap.size := by have := HBK.out.lt; simp; omega
              have hnw := Lib.hid (nats_news wl k 3)
              go_wp2_with (at_builtin; refine wpList_append_own_at _ rfl _ _ 26 rfl gs 3 i0 (.int .i64 0) 1 8 Tryd.underlying26 hi0 hz0 hz1 hz2 rfl (by decide) _ l.length (nats l) rfl hva ⟨wl.heap.size, 0, none⟩ 1 1 [.int .i64 (k : Int)] rfl rfl hnw.out hn1 (by simp only [maxLen]; omega) (by omega) hsz4 ?_; intro v3 w4 own4 gr4 nil4 at4)
              have hl4 : l.length + 1 = (l ++ [k]).length := by simp
              rw [← nats_snoc, hl4, ← HFS.out] at own4
              have hn4 : v3.ownBlock ≠ some gs := by
                have hgr := HBK.out.lt
                rcases at4 with c | c
                · rw [c]; exact HOB.out
                · rw [c]; simp; omega
              have hb4 : Blk w4 gs 4 (boolsA N seen) := (gr4.block gs (by have := HBK.out.lt; simp; omega) (Ne.symm HOB.out)).trans (HBK.out.alloc _)
              have B4 := below_grown' (BEL.out.alloc (Nat.le_of_lt HBK.out.lt) (.cells #[.int .i64 (k : Int)] 3)) gr4 (fun e he => (HOW.out.lt e he).1) hsz4
              have HV4 := Lib.hid own4
              have HB4 := Lib.hid hb4
              have HN4 := Lib.hid hn4
              have HL4 := Lib.hid B4
              clear own4 hb4 gr4 nil4 at4 hva hn4 B4 hsz4
              go_wp2_with (fail)
              go_roundw
              case rel => exact ⟨k + 1, by go_num, by omega, HV4.out, HN4.out, HB4.out, HL4.out⟩
              case measure => simp [intOf]; omega
            | false =>
              rw [hsk] at c1
              rw [hsk, if_neg (by simp), List.append_nil] at hfs
              have HFS := Lib.hid hfs
              clear hsk hfs
              go_wp2_with (fail)
              go_roundw
              case rel => exact ⟨k + 1, by go_num, by omega, by rw [HFS.out]; exact HOW.out, HOB.out, HBK.out, BEL.out⟩
              case measure => simp [intOf]; omega
          · have hke : ¬ (k : Int) < (N : Int) := by omega
            have hkN : k = N := by omega
            have HO2 := Lib.hid (hkN ▸ HOW.out)
            have HR := Lib.hid (HFIN.out _ _ HO2.out BEL.out)
            clear hkN
            go_wp2_with (fail)
            go_ret2
            exact HR.out
  · have hL : mastersL D n of_ = [] := by unfold mastersL; rw [hE, if_neg hc]
    have hc2 : (checkE D n of_ != 0) = true := by simpa using hc
    have HS : Hid (∀ v, RdI w v w.heap.size [] → RefMastersSaid D n of_ w (.returned (.tuple #[v, .int .i64 (checkE D n of_)])) w) := Lib.hid fun v hv => ⟨⟨v, by rw [hE], by rw [hL]; exact hv, by rw [hL]; exact Nat.zero_le _⟩, Below.refl _ _⟩
    generalize checkE D n of_ = E at *
    clear hE hL hc
    go_enter Tryd.func16, Tryd.ntmps16
    go_wp2_with (fail)
    refine CK.out.mono ?_
    rintro x w1 ⟨rfl, rfl⟩
    clear CK
    go_wp2_with (fail)
    go_ret2
    exact HS.out _ (.inl ⟨_, _, rfl, by simp, rfl⟩)
end Go.Proofs.YtbnnbhblfclomaaDoor
