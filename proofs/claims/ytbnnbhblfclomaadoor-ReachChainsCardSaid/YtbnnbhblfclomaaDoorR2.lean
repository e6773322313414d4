/- What the document's answer checks, and its loops. -/
import Derived.Test.YtbnnbhblfclomaaDoorR1
namespace Go.Proofs.YtbnnbhblfclomaaDoor
open Go.RowKit
set_option linter.unusedSimpArgs false
set_option linter.unusedVariables false
def LoopIs (E : Ways) (n k : Nat) (is : Bool) : Prop := (is = true ∧ k < n ∧ Cyc E k ∧ ∀ j, j < k → ¬ Cyc E j) ∨ (is = false ∧ k = 0 ∧ ∀ j, j < n → ¬ Cyc E j)
def RefLoopSaid (E : Ways) (n : Nat) (W : World) (x : Ending) (w' : World) : Prop := ∃ k is, LoopIs E n k is ∧ x = .returned (.int .i64 (if is = true then (k : Int) else -1)) ∧ Below W.heap.size W w'
set_option maxRecDepth 100000 in
set_option maxHeartbeats 1000000 in
theorem refLoop_walk (n : Nat) (A : Option Addr) (cap : Nat) (E : Ways) (w : World) (hL : Pairs w (.slice A E.length cap) (castE E)) (hE : ∀ e, e ∈ E → e.1 < n ∧ e.2 < n) (hn : n ≤ 4096) (hm : E.length ≤ 1048576) :
    Calls Tryd.prog 23 #[.int .i64 n, .slice A E.length cap] w (RefLoopSaid E n w) := by
  have HL := Lib.hid hL
  have HE := Lib.hid hE
  have HLM := Lib.hid hm
  have n0 : (0 : Int) ≤ (n : Int) := by omega
  clear hL hE
  have LW := Lib.hid (fun f W (h : Pairs W (.slice A E.length cap) (castE E)) => leads_walk n f A cap E W h HE.out hn HLM.out)
  generalize hm' : E.length = m at *
  clear hm'
  go_enter Tryd.func23, Tryd.ntmps23
  go_upto_region 2 with (fail)
  go_loopw [5] (fun iv wr => ∃ k : Nat, iv = .int .i64 k ∧ k ≤ n ∧ (∀ j, j < k → ¬ Cyc E j) ∧ Below w.heap.size w wr) (fun iv _ => n - (intOf iv).toNat)
  case atStart => exact ⟨0, rfl, Nat.zero_le _, fun j hj => by omega, Below.refl _ _⟩
  case round =>
    obtain ⟨k, rfl, hk, hno, Br⟩ := hrel
    have HN := Lib.hid hno
    clear hno
    by_cases hkn : k < n
    · have d0 : decide ((k : Int) < (n : Int)) = true := decide_eq_true (by omega)
      have LK := Lib.hid (LW.out k wr (HL.out.below Br))
      have k0 : (0 : Int) ≤ (k : Int) := by omega
      have k1 : (k : Int) < (n : Int) := by omega
      go_wp2_with (fail)
      refine LK.out.mono ?_
      rintro x w2 ⟨g, rfl, hg, hb, B2⟩
      have c1 : w2.cell? ⟨g, k, none⟩ = some (.bool (rounds E k (n + 1) k)) := by rw [hb.cell]; exact boolsA_get _ hkn
      have hck : rounds E k (n + 1) k = true ↔ Cyc E k := rounds_all E k n (fun e he => (HE.out e he).2) k
      have B3 := below_trans Br B2
      clear hb LK hg
      cases hsk : rounds E k (n + 1) k with
      | true =>
        rw [hsk] at c1
        have hcy := Lib.hid (hck.1 hsk)
        clear hck hsk
        go_wp2
        go_ret
        exact ⟨k, true, .inl ⟨rfl, hkn, hcy.out, HN.out⟩, rfl, B3⟩
      | false =>
        rw [hsk] at c1
        have hcy0 : ¬ Cyc E k := fun h => by rw [hck.2 h] at hsk; exact Bool.noConfusion hsk
        have hcy := Lib.hid hcy0
        clear hck hsk hcy0
        go_wp2
        go_roundw
        case rel => exact ⟨k + 1, by go_num, by omega, fun j hj => by
          by_cases h : j = k
          · subst h; exact hcy.out
          · exact HN.out j (by omega), B3⟩
        case measure => simp [intOf]; omega
    · have d0 : decide ((k : Int) < (n : Int)) = false := decide_eq_false (by omega)
      have hkn' : k = n := by omega
      subst hkn'
      go_wp2
      go_ret
      exact ⟨0, false, .inr ⟨rfl, rfl, HN.out⟩, rfl, Br⟩
end Go.Proofs.YtbnnbhblfclomaaDoor
