/- What the document's answer reaches. -/
import Derived.Test.YtdgclggmemciaaaDoorR2
import Derived.Test.YtdgclggmemciaaaDoorL9
namespace Go.Proofs.YtdgclggmemciaaaDoor
open Go.RowKit
set_option linter.unusedSimpArgs false
set_option linter.unusedVariables false
def RefReachSaid (E : Ways) (n f : Nat) (W : World) (x : Ending) (w' : World) : Prop :=
  ∃ (seen : Nat → Bool) (u : Value), (∀ y, seen y = true ↔ Rch E f y) ∧ x = .returned u ∧ w'.ownsRow W.heap.size 3 1 u ((List.range n).filter seen).length (nats ((List.range n).filter seen)) ∧ Below W.heap.size W w'
set_option maxRecDepth 100000 in
set_option maxHeartbeats 1000000 in
theorem refReach_walk (n f : Nat) (A : Option Addr) (cap : Nat) (E : Ways) (w : World) (hL : Pairs w (.slice A E.length cap) (castE E)) (hE : ∀ e, e ∈ E → e.1 < n ∧ e.2 < n) (hn : n ≤ 4096) (hm : E.length ≤ 1048576) :
    Calls Tryd.prog 13 #[.int .i64 n, .slice A E.length cap, .int .i64 f] w (RefReachSaid E n f w) := by
  obtain ⟨i0, hi0, hz0, hz1, hz2⟩ := info_parts info3
  have LW := Lib.hid (leads_walk n f A cap E w hL hE hn hm)
  have HS := Lib.hid (show ∀ y, ((y == f) || rounds E f (n + 1) y) = true ↔ Rch E f y from fun y => by
    rw [Bool.or_eq_true, beq_iff_eq, rounds_all E f n (fun e he => (hE e he).2), rch_iff, eq_comm])
  have n0 : (0 : Int) ≤ (n : Int) := by omega
  clear hL hE hm
  generalize hseen : (fun y => (y == f) || rounds E f (n + 1) y) = seen at *
  have HSE := Lib.hid (fun y => congrFun hseen y)
  generalize E.length = m at *
  clear hseen
  go_enter Tryd.func13, Tryd.ntmps13
  go_wp2_with (fail)
  refine LW.out.mono ?_
  rintro x w1 ⟨g, rfl, hg, hb, B1⟩
  generalize hto : rounds E f (n + 1) = tm at *
  have HTO := Lib.hid hto
  have HB := Lib.hid hb
  clear hb LW hto
  go_upto_region 4 with (fail)
  go_loopw [8, 9] (fun ov iv wr => ∃ k : Nat, iv = .int .i64 k ∧ k ≤ n ∧ wr.ownsRow w.heap.size 3 1 ov ((List.range k).filter seen).length (nats ((List.range k).filter seen)) ∧ ov.ownBlock ≠ some g ∧ Blk wr g 4 (boolsA n tm) ∧ Below w.heap.size w wr) (fun _ iv _ => n - (intOf iv).toNat)
  case atStart => exact ⟨0, rfl, Nat.zero_le _, World.ownsRow_nil _ _ _ _, by simp [Value.ownBlock], HB.out, B1⟩
  case round =>
    obtain ⟨k, rfl, hk, hv, hvb, hb, Br⟩ := hrel
    have hfl := filt_len seen k
    by_cases hkn : k < n
    · have d0 : decide ((k : Int) < (n : Int)) = true := decide_eq_true (by omega)
      have c1 : wr.cell? ⟨g, k, none⟩ = some (.bool (tm k)) := by rw [hb.cell]; exact boolsA_get tm hkn
      have k0 : (0 : Int) ≤ (k : Int) := by omega
      have k1 : (k : Int) < (n : Int) := by omega
      have hfs := filt_succ seen k
      have hse : ((k == f) || tm k) = seen k := HSE.out k
      have HBr := Lib.hid hb
      have hva := hv.alloc (.cells #[.int .i64 (k : Int)] 3)
      have HV := Lib.hid hv
      have q0 : ((k : Int) == (f : Int)) = (k == f) := by rw [Bool.eq_iff_iff, beq_iff_eq, beq_iff_eq]; omega
      clear hv hb
      generalize hq : (k == f) = qv at *
      generalize htk : tm k = tk at *
      clear hq htk
      cases hsk : seen k with
      | true =>
        rw [hsk, if_pos rfl] at hfs
        rw [hsk] at hse
        have HFS := Lib.hid hfs
        clear hsk hfs
        generalize hl : (List.range k).filter seen = l at *
        clear hl
        have hn1 : ∀ u ∈ [Value.int .i64 (k : Int)], u.oneCell' = true := by simp [Value.oneCell']
        have hsz4 : w.heap.size ≤ (wr.alloc (.cells #[.int .i64 (k : Int)] 3)).heap.size := by have := Br.size; simp; omega
        have hnw := Lib.hid (nats_news wr k 3)
        cases qv
        · cases tk
          · simp at hse
          · clear hse
            go_wp2_with (at_builtin; refine wpList_append_own_at _ rfl _ _ 25 rfl w.heap.size 3 i0 (.int .i64 0) 1 8 Tryd.underlying25 hi0 hz0 hz1 hz2 rfl (by decide) u8 l.length (nats l) rfl hva ⟨wr.heap.size, 0, none⟩ 1 1 [.int .i64 (k : Int)] rfl rfl hnw.out hn1 (by simp only [maxLen]; omega) (by omega) hsz4 ?_; intro v3 w4 own4 gr4 nil4 at4)
            have hl4 : l.length + 1 = (l ++ [k]).length := by simp
            rw [← nats_snoc, hl4, ← HFS.out] at own4
            have hgr := HBr.out.lt
            have hn4 : v3.ownBlock ≠ some g := by
              rcases at4 with c | c
              · rw [c]; exact hvb
              · rw [c]; simp; omega
            have hb4 : Blk w4 g 4 (boolsA n tm) := (gr4.block g (by simp; omega) (Ne.symm hvb)).trans (HBr.out.alloc _)
            have B4 := below_grown (below_al Br _) gr4 (fun e he => (HV.out.lt e he).1) hsz4
            have HV4 := Lib.hid own4
            have HB4 := Lib.hid hb4
            clear own4 hb4 gr4 nil4 at4 hva hl4
            go_wp2
            go_roundw
            case rel => exact ⟨k + 1, by go_num, by omega, HV4.out, hn4, HB4.out, B4⟩
            case measure => simp [intOf]; omega
        · clear hse
          go_wp2_with (at_builtin; refine wpList_append_own_at _ rfl _ _ 25 rfl w.heap.size 3 i0 (.int .i64 0) 1 8 Tryd.underlying25 hi0 hz0 hz1 hz2 rfl (by decide) u8 l.length (nats l) rfl hva ⟨wr.heap.size, 0, none⟩ 1 1 [.int .i64 (k : Int)] rfl rfl hnw.out hn1 (by simp only [maxLen]; omega) (by omega) hsz4 ?_; intro v3 w4 own4 gr4 nil4 at4)
          have hl4 : l.length + 1 = (l ++ [k]).length := by simp
          rw [← nats_snoc, hl4, ← HFS.out] at own4
          have hgr := HBr.out.lt
          have hn4 : v3.ownBlock ≠ some g := by
            rcases at4 with c | c
            · rw [c]; exact hvb
            · rw [c]; simp; omega
          have hb4 : Blk w4 g 4 (boolsA n tm) := (gr4.block g (by simp; omega) (Ne.symm hvb)).trans (HBr.out.alloc _)
          have B4 := below_grown (below_al Br _) gr4 (fun e he => (HV.out.lt e he).1) hsz4
          have HV4 := Lib.hid own4
          have HB4 := Lib.hid hb4
          clear own4 hb4 gr4 nil4 at4 hva hl4
          go_wp2
          go_roundw
          case rel => exact ⟨k + 1, by go_num, by omega, HV4.out, hn4, HB4.out, B4⟩
          case measure => simp [intOf]; omega
      | false =>
        rw [hsk, if_neg (by simp), List.append_nil] at hfs
        rw [hsk] at hse
        have HFS := Lib.hid hfs
        clear hsk hfs hva
        cases qv
        · cases tk
          · clear hse
            go_wp2
            go_roundw
            case rel => exact ⟨k + 1, by go_num, by omega, by rw [HFS.out]; exact HV.out, hvb, HBr.out, Br⟩
            case measure => simp [intOf]; omega
          · simp at hse
        · simp at hse
    · have d0 : decide ((k : Int) < (n : Int)) = false := decide_eq_false (by omega)
      have hkn' : k = n := by omega
      subst hkn'
      have HV := Lib.hid hv
      clear hv hb
      go_wp2
      go_ret
      exact ⟨seen, _, fun y => by rw [← HSE.out]; exact HS.out y, rfl, HV.out, Br⟩
end Go.Proofs.YtdgclggmemciaaaDoor
