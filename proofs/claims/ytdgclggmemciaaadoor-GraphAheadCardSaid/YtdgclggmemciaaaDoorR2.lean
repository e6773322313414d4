/- What the document's answer checks, and its loops. -/
import Derived.Test.YtdgclggmemciaaaDoorR1
namespace Go.Proofs.YtdgclggmemciaaaDoor
open Go.RowKit
set_option linter.unusedSimpArgs false
set_option linter.unusedVariables false
def LoopIs (E : Ways) (n k : Nat) (is : Bool) : Prop := (is = true ∧ k < n ∧ Cyc E k ∧ ∀ j, j < k → ¬ Cyc E j) ∨ (is = false ∧ k = 0 ∧ ∀ j, j < n → ¬ Cyc E j)
theorem LoopSaid.is {E : Ways} {n : Nat} {W : World} {x : Ending} {w' : World} (h : LoopSaid E n W x w') : ∃ k is, LoopIs E n k is ∧ x = .returned (.tuple #[.int .i64 (k : Nat), .bool is, .nilIface]) ∧ Below W.heap.size W w' := by
  obtain ⟨⟨k, h1, h2, h3, h4⟩ | ⟨h1, h2⟩, B⟩ := h
  · exact ⟨k, true, .inl ⟨rfl, h1, h2, h3⟩, h4, B⟩
  · exact ⟨0, false, .inr ⟨rfl, rfl, h1⟩, h2, B⟩
theorem LoopIs.turn {E : Ways} {n k k2 : Nat} {is is2 : Bool} (h : LoopIs E n k is) (h2 : LoopIs (turnE E) n k2 is2) : k2 = k ∧ is2 = is := by
  rcases h with ⟨a1, a2, a3, a4⟩ | ⟨a1, a2, a3⟩
  · rcases h2 with ⟨b1, b2, b3, b4⟩ | ⟨b1, b2, b3⟩
    · have c1 := a4 k2
      have c2 := b4 k
      have c3 := cyc_turn.1 b3
      have c4 := cyc_turn.2 a3
      refine ⟨?_, by rw [a1, b1]⟩
      rcases Nat.lt_trichotomy k k2 with c | c | c
      · exact absurd c4 (c2 c)
      · exact c.symm
      · exact absurd c3 (c1 c)
    · exact absurd (cyc_turn.2 a3) (b3 k a2)
  · rcases h2 with ⟨b1, b2, b3, b4⟩ | ⟨b1, b2, b3⟩
    · exact absurd (cyc_turn.1 b3) (a3 k2 b2)
    · exact ⟨by rw [a2, b2], by rw [a1, b1]⟩
theorem chkF_any {n : Int} {L : List (Int × Int)} (h : ¬ (n < 0 ∨ 4096 < n ∨ 1048576 < L.length)) (ha : L.any (away n) = true) : chkF n L = 5 := by unfold chkF; rw [if_neg h, if_pos ha]
theorem chkF_none {n : Int} {L : List (Int × Int)} (h : ¬ (n < 0 ∨ 4096 < n ∨ 1048576 < L.length)) (ha : ∀ j, j < L.length → away n (L.getD j (0, 0)) = false) : chkF n L = 0 := by
  unfold chkF
  rw [if_neg h, if_neg]
  intro hc
  obtain ⟨e, he, hh⟩ := List.any_eq_true.1 hc
  obtain ⟨j, hj, rfl⟩ := List.mem_iff_getElem.1 he
  have := ha j hj
  rw [List.getD_eq_getElem?_getD, List.getElem?_eq_getElem hj, Option.getD_some] at this
  rw [this] at hh; cases hh
def NumIs (k : Int) (W : World) (x : Ending) (w' : World) : Prop := x = .returned (.int .i64 k) ∧ w' = W
set_option maxRecDepth 100000 in
set_option maxHeartbeats 1000000 in
theorem refCheck_walk (n : Int) (v : Value) (L : List (Int × Int)) (w : World) (hL : Pairs w v L) :
    Calls Tryd.prog 10 #[.int .i64 n, v] w (NumIs (chkF n L) w) := by
  obtain ⟨A, cap, rfl, hbig, hp⟩ := hL
  have HP := Lib.hid hp
  clear hp
  by_cases h : n < 0 ∨ 4096 < n ∨ 1048576 < L.length
  · have hc : chkF n L = 2 := by unfold chkF; rw [if_pos h]
    rw [hc]
    clear hc
    generalize L.length = m at *
    rcases h with h | h | h
    · go_enter Tryd.func10, Tryd.ntmps10
      go_wp2
      go_ret
      exact ⟨rfl, rfl⟩
    · have h0 : ¬ n < 0 := by omega
      go_enter Tryd.func10, Tryd.ntmps10
      go_wp2
      go_ret
      exact ⟨rfl, rfl⟩
    · have h3 : (1048576 : Int) < (m : Int) := by omega
      go_enter Tryd.func10, Tryd.ntmps10
      go_wp2
      all_goals
        go_ret
        exact ⟨rfl, rfl⟩
  · have HH := Lib.hid h
    rw [not_or, not_or] at h
    obtain ⟨h1, h2, h3⟩ := h
    have h3' : ¬ (1048576 : Int) < (L.length : Int) := by omega
    have HC := Lib.hid (fun ha => chkF_any HH.out ha)
    have HD := Lib.hid (fun ha => chkF_none HH.out ha)
    generalize chkF n L = c at *
    generalize hm : L.length = m at *
    have HM := Lib.hid hm
    clear hm
    go_enter Tryd.func10, Tryd.ntmps10
    go_upto_region 4 with (fail)
    go_loop [5] (fun iv => ∃ k : Nat, iv = .int .i64 k ∧ k ≤ m ∧ ∀ j, j < k → away n (L.getD j (0, 0)) = false) (fun iv => m - (intOf iv).toNat)
    case atStart => exact ⟨0, rfl, Nat.zero_le _, fun j hj => by omega⟩
    case round =>
      obtain ⟨k, rfl, hk, hno⟩ := hrel
      have HN := Lib.hid hno
      clear hno
      by_cases hkm : k < m
      · have d0 : decide ((k : Int) < (m : Int)) = true := decide_eq_true (by omega)
        obtain ⟨ad, rfl, hl, hc⟩ := HP.out (by omega)
        obtain ⟨x0, x1⟩ := hc k hkm
        obtain ⟨a, b, hab⟩ : ∃ a b, L.getD k (0, 0) = (a, b) := ⟨_, _, rfl⟩
        rw [hab] at x0 x1
        have hmem : (a, b) ∈ L := by rw [← hab, List.getD_eq_getElem?_getD, List.getElem?_eq_getElem (by rw [HM.out]; omega)]; exact List.getElem_mem _
        have HAB := Lib.hid hab
        have HMEM := Lib.hid hmem
        have k0 : (0 : Int) ≤ (k : Int) := by omega
        have k1 : (k : Int) < (m : Int) := by omega
        clear hc hab hmem
        go_upto_region 7 with (fail)
        go_loop [6] (fun iv => iv = .int .i64 0 ∨ (iv = .int .i64 1 ∧ 0 ≤ a ∧ a < n) ∨ (iv = .int .i64 2 ∧ (0 ≤ a ∧ a < n) ∧ (0 ≤ b ∧ b < n))) (fun iv => 2 - (intOf iv).toNat)
        case atStart => exact .inl rfl
        case round =>
          rcases hrel with rfl | ⟨rfl, ha0, ha1⟩ | ⟨rfl, ⟨ha0, ha1⟩, hb0, hb1⟩
          · by_cases hneg : a < 0
            · have hc5 := HC.out (List.any_eq_true.2 ⟨_, HMEM.out, by unfold away; simp [hneg]⟩)
              subst hc5
              go_wp2
              go_ret
              exact ⟨rfl, rfl⟩
            · by_cases hbig' : n ≤ a
              · have hc5 := HC.out (List.any_eq_true.2 ⟨_, HMEM.out, by unfold away; simp [hbig']⟩)
                subst hc5
                go_wp2
                go_ret
                exact ⟨rfl, rfl⟩
              · go_wp2
                go_round
                case rel => exact .inr (.inl ⟨rfl, by omega, by omega⟩)
                case measure => simp [intOf]
          · by_cases hneg : b < 0
            · have hc5 := HC.out (List.any_eq_true.2 ⟨_, HMEM.out, by unfold away; simp [hneg]⟩)
              subst hc5
              go_wp2
              go_ret
              exact ⟨rfl, rfl⟩
            · by_cases hbig' : n ≤ b
              · have hc5 := HC.out (List.any_eq_true.2 ⟨_, HMEM.out, by unfold away; simp [hbig']⟩)
                subst hc5
                go_wp2
                go_ret
                exact ⟨rfl, rfl⟩
              · go_wp2
                go_round
                case rel => exact .inr (.inr ⟨rfl, ⟨by omega, by omega⟩, by omega, by omega⟩)
                case measure => simp [intOf]
          · go_wp2
            go_round
            case rel => exact ⟨k + 1, by go_num, by omega, fun j hj => by
              by_cases h : j = k
              · subst h; rw [HAB.out]; unfold away; simp; omega
              · exact HN.out j (by omega)⟩
            case measure => simp [intOf]; omega
      · have d0 : decide ((k : Int) < (m : Int)) = false := decide_eq_false (by omega)
        have hc0 := HD.out (fun j hj => HN.out j (by omega))
        subst hc0
        go_wp2
        go_ret
        exact ⟨rfl, rfl⟩
def RefLoopSaid (E : Ways) (n : Nat) (W : World) (x : Ending) (w' : World) : Prop := ∃ k is, LoopIs E n k is ∧ x = .returned (.int .i64 (if is = true then (k : Int) else -1)) ∧ Below W.heap.size W w'
set_option maxRecDepth 100000 in
set_option maxHeartbeats 1000000 in
theorem refLoop_walk (n : Nat) (A : Option Addr) (cap : Nat) (E : Ways) (w : World) (hL : Pairs w (.slice A E.length cap) (castE E)) (hE : ∀ e, e ∈ E → e.1 < n ∧ e.2 < n) (hn : n ≤ 4096) (hm : E.length ≤ 1048576) :
    Calls Tryd.prog 18 #[.int .i64 n, .slice A E.length cap] w (RefLoopSaid E n w) := by
  have HL := Lib.hid hL
  have HE := Lib.hid hE
  have HLM := Lib.hid hm
  have n0 : (0 : Int) ≤ (n : Int) := by omega
  clear hL hE
  have LW := Lib.hid (fun f W (h : Pairs W (.slice A E.length cap) (castE E)) => leads_walk n f A cap E W h HE.out hn HLM.out)
  generalize hm' : E.length = m at *
  clear hm'
  go_enter Tryd.func18, Tryd.ntmps18
  go_upto_region 2 with (fail)
  go_loopw [5] (fun iv wr => ∃ k : Nat, iv = .int .i64 k ∧ k ≤ n ∧ (∀ j, j < k → ¬ Cyc E j) ∧ Below w.heap.size w wr) (fun iv _ => n - (intOf iv).toNat)
  case atStart => exact ⟨0, rfl, Nat.zero_le _, fun j hj => by omega, Below.refl _ _⟩
  case round =>
    obtain ⟨k, rfl, hk, hno, Br⟩ := hrel
    have HN := Lib.hid hno
    clear hno
    by_cases hkn : k < n
    · have d0 : decide ((k : Int) < (n : Int)) = true := decide_eq_true (by omega)
      have LK := Lib.hid (LW.out k wr (HL.out.below Br))
      have k0 : (0 : Int) ≤ (k : Int) := by omega
      have k1 : (k : Int) < (n : Int) := by omega
      go_wp2_with (fail)
      refine LK.out.mono ?_
      rintro x w2 ⟨g, rfl, hg, hb, B2⟩
      have c1 : w2.cell? ⟨g, k, none⟩ = some (.bool (rounds E k (n + 1) k)) := by rw [hb.cell]; exact boolsA_get _ hkn
      have hck : rounds E k (n + 1) k = true ↔ Cyc E k := rounds_all E k n (fun e he => (HE.out e he).2) k
      have B3 := below_trans Br B2
      clear hb LK hg
      cases hsk : rounds E k (n + 1) k with
      | true =>
        rw [hsk] at c1
        have hcy := Lib.hid (hck.1 hsk)
        clear hck hsk
        go_wp2
        go_ret
        exact ⟨k, true, .inl ⟨rfl, hkn, hcy.out, HN.out⟩, rfl, B3⟩
      | false =>
        rw [hsk] at c1
        have hcy0 : ¬ Cyc E k := fun h => by rw [hck.2 h] at hsk; exact Bool.noConfusion hsk
        have hcy := Lib.hid hcy0
        clear hck hsk hcy0
        go_wp2
        go_roundw
        case rel => exact ⟨k + 1, by go_num, by omega, fun j hj => by
          by_cases h : j = k
          · subst h; exact hcy.out
          · exact HN.out j (by omega), B3⟩
        case measure => simp [intOf]; omega
    · have d0 : decide ((k : Int) < (n : Int)) = false := decide_eq_false (by omega)
      have hkn' : k = n := by omega
      subst hkn'
      go_wp2
      go_ret
      exact ⟨0, false, .inr ⟨rfl, rfl, HN.out⟩, rfl, Br⟩
end Go.Proofs.YtdgclggmemciaaaDoor
