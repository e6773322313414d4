/- Loop, walked. -/
import Derived.Test.YtdgclggmemciaaaDoorL7
namespace Go.Proofs.YtdgclggmemciaaaDoor
open Go.RowKit
set_option linter.unusedSimpArgs false
set_option linter.unusedVariables false
def LoopSaid (E : Ways) (n : Nat) (W : World) (x : Ending) (w' : World) : Prop :=
  ((∃ k, k < n ∧ Cyc E k ∧ (∀ j, j < k → ¬ Cyc E j) ∧ x = .returned (.tuple #[.int .i64 (k : Int), .bool true, .nilIface])) ∨ ((∀ j, j < n → ¬ Cyc E j) ∧ x = .returned (.tuple #[.int .i64 0, .bool false, .nilIface]))) ∧ Below W.heap.size W w'
set_option maxRecDepth 100000 in
set_option maxHeartbeats 1000000 in
theorem loop_ok (n : Nat) (v : Value) (E : Ways) (w : World) (hL : Pairs w v (castE E)) (hE : ∀ e, e ∈ E → e.1 < n ∧ e.2 < n) (hn : n ≤ 4096) (hm : E.length ≤ 1048576) :
    Calls Tryd.prog 14 #[.int .i64 n, v] w (LoopSaid E n w) := by
  have CK := check_walk n v (castE E) w hL
  rw [chkF_ok hE hn hm, errI_zero] at CK
  have HCK := Lib.hid CK
  have HL := Lib.hid hL
  have HE := Lib.hid hE
  have i0 : (0 : Int) ≤ (n : Int) := by omega
  clear CK hL hE
  go_enter Tryd.func14, Tryd.ntmps14
  go_wp2_with (fail)
  refine HCK.out.mono ?_
  rintro x w1 ⟨rfl, B1⟩
  have HSD := Lib.hid (sides_walk n v E w1 (HL.out.below B1) HE.out hn hm)
  go_wp2_with (fail)
  refine HSD.out.mono ?_
  rintro x w2 ⟨rfl, hS, B2⟩
  have B := below_trans B1 B2
  have HS := Lib.hid hS
  generalize hso : w1.heap.size = so at *
  clear B1 B2 hS HSD HCK
  go_upto_region 6 with (fail)
  go_loopw [20] (fun iv wr => ∃ k : Nat, iv = .int .i64 k ∧ k ≤ n ∧ (∀ j, j < k → ¬ Cyc E j) ∧ Below w2.heap.size w2 wr) (fun iv _ => n - (intOf iv).toNat)
  case atStart => exact ⟨0, rfl, Nat.zero_le _, fun j hj => by omega, Below.refl _ _⟩
  case round =>
    obtain ⟨k, rfl, hk, hno, Br⟩ := hrel
    have HN := Lib.hid hno
    clear hno
    have hS2 := HS.out.below Br
    by_cases hkn : k < n
    · have d0 : decide ((k : Int) < (n : Int)) = true := decide_eq_true (by omega)
      obtain ⟨vv, hvv, hR⟩ := hS2.2 k hkn
      have hlen : (sideL E k).length ≤ 1048576 := by have := sideL_len E k; omega
      have CL := Lib.hid (clone_walk vv (sideL E k) wr hR hlen)
      have k0 : (0 : Int) ≤ (k : Int) := by omega
      have k1 : (k : Int) < (n : Int) := by omega
      clear hR hS2
      go_wp2_with (fail)
      refine CL.out.mono ?_
      rintro x w3 ⟨u, rfl, hu, B3⟩
      have hSk : ∀ y ∈ sideL E k, y < n := fun y hy => (HE.out _ (mem_sideL.1 hy)).2
      have MK := Lib.hid (marked_walk w2 w3 so n E (sideL E k) u (Br.trans (B3.mono Br.size)) HS.out (owns_low hu Br.size) hSk HE.out hn hm hlen)
      clear CL hu hSk
      go_wp2_with (fail)
      refine MK.out.mono ?_
      rintro x w4 ⟨g, seen, rfl, hb, hs, hg, B4⟩
      have c1 : w4.cell? ⟨g, k, none⟩ = some (.bool (seen k)) := by rw [hb.cell]; exact boolsA_get seen hkn
      have hck : seen k = true ↔ Cyc E k := by
        rw [hs]
        constructor
        · rintro ⟨s, h1, h2⟩; exact ⟨s, mem_sideL.1 h1, h2⟩
        · rintro ⟨s, h1, h2⟩; exact ⟨s, mem_sideL.2 h1, h2⟩
      have HB := Lib.hid hb
      clear hb hs MK
      cases hsk : seen k with
      | true =>
        rw [hsk] at c1
        have hcy := Lib.hid (hck.1 hsk)
        clear hck hsk
        go_wp2
        go_ret3
        exact ⟨.inl ⟨k, hkn, hcy.out, HN.out, rfl⟩, B.trans (B4.mono B.size)⟩
      | false =>
        rw [hsk] at c1
        have hcy0 : ¬ Cyc E k := fun h => by rw [hck.2 h] at hsk; exact Bool.noConfusion hsk
        have hcy := Lib.hid hcy0
        clear hcy0
        clear hck hsk
        go_wp2
        go_roundw
        case rel => exact ⟨k + 1, by go_num, by omega, fun j hj => by
          by_cases h : j = k
          · subst h; exact hcy.out
          · exact HN.out j (by omega), B4⟩
        case measure => simp [intOf]; omega
    · have d0 : decide ((k : Int) < (n : Int)) = false := decide_eq_false (by omega)
      have hkn' : k = n := by omega
      subst hkn'
      go_wp2
      go_ret3
      exact ⟨.inr ⟨HN.out, rfl⟩, B.trans (Br.mono B.size)⟩
end Go.Proofs.YtdgclggmemciaaaDoor
