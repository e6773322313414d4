/- Reach, walked. -/
import Derived.Test.YtdgclggmemciaaaDoorL7
namespace Go.Proofs.YtdgclggmemciaaaDoor
open Go.RowKit
set_option linter.unusedSimpArgs false
set_option linter.unusedVariables false
theorem nats_news (w : World) (x : Nat) (t : TypeId) : ∀ j u, [Value.int .i64 (x : Int)][j]? = some u → (w.alloc (.cells #[.int .i64 (x : Int)] t)).cell? ((⟨w.heap.size, 0, none⟩ : Addr).add j) = some u :=
  World.news_of_block (cs := #[.int .i64 (x : Int)]) (t := t) (fr := (0, 0)) (heap_alloc_new w _)
/-- What Reach gives. -/
def ReachSaid (E : Ways) (n f : Nat) (B : Nat) (W : World) (x : Ending) (w' : World) : Prop :=
  ∃ (seen : Nat → Bool) (u : Value), (∀ y, seen y = true ↔ Rch E f y) ∧ x = .returned (.tuple #[u, .nilIface]) ∧ w'.ownsRow B 3 1 u ((List.range n).filter seen).length (nats ((List.range n).filter seen)) ∧ Below B W w'
theorem filt_succ (seen : Nat → Bool) (k : Nat) : (List.range (k + 1)).filter seen = (List.range k).filter seen ++ if seen k = true then [k] else [] := by
  rw [List.range_succ, List.filter_append]
  congr 1
  by_cases h : seen k = true <;> simp [h]
theorem filt_len (seen : Nat → Bool) (k : Nat) : ((List.range k).filter seen).length ≤ k := by
  have := List.length_filter_le seen (List.range k)
  rwa [List.length_range] at this
set_option maxRecDepth 100000 in
set_option maxHeartbeats 1000000 in
theorem reach_ok (n f : Nat) (v : Value) (E : Ways) (w : World) (hL : Pairs w v (castE E)) (hE : ∀ e, e ∈ E → e.1 < n ∧ e.2 < n) (hn : n ≤ 4096) (hm : E.length ≤ 1048576) (hf : f < n) :
    Calls Tryd.prog 9 #[.int .i64 n, v, .int .i64 f] w (ReachSaid E n f w.heap.size w) := by
  obtain ⟨i0, hi0, hz0, hz1, hz2⟩ := info_parts info3
  have CK := check_walk n v (castE E) w hL
  rw [chkF_ok hE hn hm, errI_zero] at CK
  have HCK := Lib.hid CK
  have HL := Lib.hid hL
  have HE := Lib.hid hE
  have n0 : (0 : Int) ≤ (n : Int) := by omega
  have d1 : decide ((f : Int) < 0) = false := decide_eq_false (by omega)
  have d2 : decide ((n : Int) ≤ (f : Int)) = false := decide_eq_false (by omega)
  clear CK hL hE
  go_enter Tryd.func9, Tryd.ntmps9
  go_wp2_with (fail)
  refine HCK.out.mono ?_
  rintro x w1 ⟨rfl, B1⟩
  have HSD := Lib.hid (sides_walk n v E w1 (HL.out.below B1) HE.out hn hm)
  go_wp2_with (fail)
  refine HSD.out.mono ?_
  rintro x w2 ⟨rfl, hS, B2⟩
  have B := below_trans B1 B2
  have hsz := (World.ownsRow_made w2 #[.int .i64 (f : Int)] 1 (Nat.le_refl _) (by decide) rfl (e := 3) (size := 1))
  have hown : (w2.alloc (.cells #[.int .i64 (f : Int)] 3)).ownsRow w2.heap.size 3 1 (.slice (some ⟨w2.heap.size, 0, none⟩) 1 1) [f].length (nats [f]) :=
    ⟨rfl, .inr ⟨w2.heap.size, 1, #[.int .i64 (f : Int)], rfl, Nat.le_refl _, heap_alloc_new w2 _, Nat.le_refl _, by decide, rfl, rfl⟩⟩
  have MK := Lib.hid (marked_walk w2 (w2.alloc (.cells #[.int .i64 (f : Int)] 3)) w1.heap.size n E [f] _ (below_al (Below.refl _ w2) _) hS hown (by simp; exact hf) HE.out hn hm (by simp))
  clear hS hsz hown HSD HCK B1 B2
  go_wp2_with (fail)
  refine MK.out.mono ?_
  rintro x w3 ⟨g, seen, rfl, hb, hs, hg, B3⟩
  have hs' : ∀ y, seen y = true ↔ Rch E f y := fun y => by rw [hs]; simp
  have hgs := hb.lt
  have HB := Lib.hid hb
  have HS := Lib.hid hs'
  have B4 := B.trans (B3.mono B.size)
  have hgw : w.heap.size ≤ g := Nat.le_trans B.size hg
  clear hb hs hs' MK B B3 hg
  go_upto_region 8 with (fail)
  go_loopw [9, 35] (fun ov iv wr => ∃ k : Nat, iv = .int .i64 k ∧ k ≤ n ∧ wr.ownsRow w.heap.size 3 1 ov ((List.range k).filter seen).length (nats ((List.range k).filter seen)) ∧ ov.ownBlock ≠ some g ∧ Blk wr g 4 (boolsA n seen) ∧ Below w.heap.size w wr) (fun _ iv _ => n - (intOf iv).toNat)
  case atStart => exact ⟨0, rfl, Nat.zero_le _, World.ownsRow_nil _ _ _ _, by simp [Value.ownBlock], HB.out, B4⟩
  case round =>
    obtain ⟨k, rfl, hk, hv, hvb, hb, Br⟩ := hrel
    have hfl := filt_len seen k
    by_cases hkn : k < n
    · have d0 : decide ((k : Int) < (n : Int)) = true := decide_eq_true (by omega)
      have c1 : wr.cell? ⟨g, k, none⟩ = some (.bool (seen k)) := by rw [hb.cell]; exact boolsA_get seen hkn
      have k0 : (0 : Int) ≤ (k : Int) := by omega
      have k1 : (k : Int) < (n : Int) := by omega
      have hfs := filt_succ seen k
      have HBr := Lib.hid hb
      have hva := hv.alloc (.cells #[.int .i64 (k : Int)] 3)
      have HV := Lib.hid hv
      clear hv hb
      cases hsk : seen k with
      | true =>
        rw [hsk] at c1
        rw [hsk, if_pos rfl] at hfs
        have HFS := Lib.hid hfs
        clear hsk hfs
        generalize hl : (List.range k).filter seen = l at *
        have HHL := Lib.hid hl
        clear hl
        have hn1 : ∀ u ∈ [Value.int .i64 (k : Int)], u.oneCell' = true := by simp [Value.oneCell']
        have hsz4 : w.heap.size ≤ (wr.alloc (.cells #[.int .i64 (k : Int)] 3)).heap.size := by have := Br.size; simp; omega
        have hnw := Lib.hid (nats_news wr k 3)
        go_wp2_with (at_builtin; refine wpList_append_own_at _ rfl _ _ 25 rfl w.heap.size 3 i0 (.int .i64 0) 1 8 Tryd.underlying25 hi0 hz0 hz1 hz2 rfl (by decide) u9 l.length (nats l) rfl hva ⟨wr.heap.size, 0, none⟩ 1 1 [.int .i64 (k : Int)] rfl rfl hnw.out hn1 (by simp only [maxLen]; omega) (by omega) hsz4 ?_; intro v3 w4 own4 gr4 nil4 at4)
        have hl4 : l.length + 1 = (l ++ [k]).length := by simp
        rw [← nats_snoc, hl4, ← HFS.out] at own4
        have hn4 : v3.ownBlock ≠ some g := by
          have hgr := HBr.out.lt
          rcases at4 with c | c
          · rw [c]; exact hvb
          · rw [c]; simp; omega
        have hb4 : Blk w4 g 4 (boolsA n seen) := (gr4.block g (by have := HBr.out.lt; simp; omega) (Ne.symm hvb)).trans (HBr.out.alloc _)
        have B4 := below_grown (below_al Br _) gr4 (fun e he => (HV.out.lt e he).1) (by have := Br.size; simp; omega)
        have HV4 := Lib.hid own4
        have HB4 := Lib.hid hb4
        clear own4 hb4 gr4 nil4 at4 hva
        go_wp2
        go_roundw
        case rel => exact ⟨k + 1, by go_num, by omega, HV4.out, hn4, HB4.out, B4⟩
        case measure => simp [intOf]; omega
      | false =>
        rw [hsk] at c1
        rw [hsk, if_neg (by simp), List.append_nil] at hfs
        have HFS := Lib.hid hfs
        clear hsk hfs hva
        go_wp2
        go_roundw
        case rel => exact ⟨k + 1, by go_num, by omega, by rw [HFS.out]; exact HV.out, hvb, HBr.out, Br⟩
        case measure => simp [intOf]; omega
    · have d0 : decide ((k : Int) < (n : Int)) = false := decide_eq_false (by omega)
      have hkn' : k = n := by omega
      subst hkn'
      have HV := Lib.hid hv
      clear hv hb
      go_wp2
      go_ret2
      exact ⟨seen, _, HS.out, rfl, HV.out, Br⟩
end Go.Proofs.YtdgclggmemciaaaDoor
