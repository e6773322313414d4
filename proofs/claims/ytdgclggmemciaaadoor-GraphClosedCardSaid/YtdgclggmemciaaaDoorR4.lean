/- The depths that the document's answer finds. -/
import Derived.Test.YtdgclggmemciaaaDoorR2
import Derived.Test.YtdgclggmemciaaaDoorK3
namespace Go.Proofs.YtdgclggmemciaaaDoor
open Go.RowKit
set_option linter.unusedSimpArgs false
set_option linter.unusedVariables false
def depT (E : Ways) (k : Nat) (d : Nat → Nat) : Nat → Nat := (E.take k).foldl dep1 d
theorem depT_zero (E : Ways) (d : Nat → Nat) : depT E 0 d = d := rfl
theorem depT_succ (E : Ways) (k a b : Nat) (d : Nat → Nat) (h : E[k]? = some (a, b)) : depT E (k + 1) d = dep1 (depT E k d) (a, b) := by
  unfold depT; rw [List.take_add_one, h, List.foldl_append]; rfl
theorem depT_all (E : Ways) (k : Nat) (d : Nat → Nat) (h : E.length ≤ k) : depT E k d = depR E d := by unfold depT depR; rw [List.take_of_length_le h]
theorem dep1_upd (d : Nat → Nat) (a b : Nat) : dep1 d (a, b) = updN d b (max (d b) (d a + 1)) := by funext y; unfold dep1 updN; rfl
theorem depT_bd (E : Ways) (d : Nat → Nat) (c : Nat) (h : ∀ y, d y ≤ c) : ∀ k y, depT E k d y ≤ c + k := by
  intro k
  induction k with
  | zero => intro y; exact h y
  | succ k ih =>
    intro y
    by_cases hk : k < E.length
    · obtain ⟨⟨a, b⟩, hab⟩ : ∃ e, E[k]? = some e := ⟨_, List.getElem?_eq_getElem hk⟩
      rw [depT_succ E k a b d hab]
      unfold dep1
      have h1 := ih y
      have h2 := ih a
      have h3 := ih b
      split
      · simp only; omega
      · omega
    · have : depT E (k + 1) d = depT E k d := by rw [depT_all E _ d (by omega), depT_all E _ d (by omega)]
      rw [this]
      have := ih y; omega
def RefDepthsSaid (E : Ways) (n : Nat) (W : World) (x : Ending) (w' : World) : Prop := ∃ g, x = .returned (.slice (some ⟨g, 0, none⟩) n n) ∧ W.heap.size ≤ g ∧ Blk w' g 3 (natsA n (depN E n)) ∧ Below W.heap.size W w'
set_option maxRecDepth 100000 in
set_option maxHeartbeats 2000000 in
theorem refDepths_walk (n : Nat) (A : Option Addr) (cap : Nat) (E : Ways) (w : World) (hL : Pairs w (.slice A E.length cap) (castE E)) (hE : ∀ e, e ∈ E → e.1 < n ∧ e.2 < n) (hn : n ≤ 40) (hm : E.length ≤ 81) :
    Calls Tryd.prog 20 #[.int .i64 n, .slice A E.length cap] w (RefDepthsSaid E n w) := by
  have HM := make_walk n (by omega) w
  have HL := Lib.hid hL
  have HE := Lib.hid hE
  have n0 : (0 : Int) ≤ (n : Int) := by omega
  have hb0 := Lib.hid (Blk.new w 3 (natsA n (fun _ => 0)))
  have B0 := below_al (Below.refl w.heap.size w) (.cells (natsA n (fun _ => 0)) 3)
  clear hL hE
  generalize hm' : E.length = m at *
  have HLEN := Lib.hid hm'
  clear hm'
  go_enter Tryd.func20, Tryd.ntmps20
  go_upto_region 3 with (fail)
  clear HM
  generalize hW : w.alloc (.cells (natsA n (fun _ => 0)) 3) = W0 at *
  clear hW
  go_loopw [6] (fun iv wr => ∃ k : Nat, iv = .int .i64 k ∧ k ≤ n ∧ Blk wr w.heap.size 3 (natsA n (depN E k)) ∧ Below w.heap.size w wr) (fun iv _ => n - (intOf iv).toNat)
  case atStart => exact ⟨0, rfl, Nat.zero_le _, hb0.out, B0⟩
  case round =>
    clear B0 hb0
    obtain ⟨k, rfl, hk, hb, Br⟩ := hrel
    have HB := Lib.hid hb
    clear hb
    by_cases hkn : k < n
    · have d0 : decide ((k : Int) < (n : Int)) = true := decide_eq_true (by omega)
      have hbd0 := depN_bd E k
      have hkm : k * E.length ≤ 40 * 81 := Nat.mul_le_mul (by omega) (by rw [HLEN.out]; omega)
      have HBD := Lib.hid (fun j y => depT_bd E (depN E k) (40 * 81) (fun y => Nat.le_trans (hbd0 y) hkm) j y)
      clear hbd0 hkm
      go_upto_region 6 with (fail)
      obtain ⟨wo, rfl⟩ : ∃ wo : World, wo = wr := ⟨_, rfl⟩
      go_loopw [7] (fun iv wr => ∃ j : Nat, iv = .int .i64 j ∧ j ≤ m ∧ Blk wr w.heap.size 3 (natsA n (depT E j (depN E k))) ∧ Below w.heap.size w wr) (fun iv _ => m - (intOf iv).toNat)
      case atStart => exact ⟨0, rfl, Nat.zero_le _, by rw [depT_zero]; exact HB.out, Br⟩
      case round =>
        clear HB Br
        obtain ⟨j, rfl, hj, hb, Br⟩ := hrel
        by_cases hjm : j < m
        · have d1 : decide ((j : Int) < (m : Int)) = true := decide_eq_true (by omega)
          obtain ⟨⟨a, b⟩, hab⟩ : ∃ e, E[j]? = some e := ⟨_, List.getElem?_eq_getElem (by rw [HLEN.out]; omega)⟩
          have hab' := HE.out _ (List.mem_of_getElem? hab)
          have hl' := HL.out
          rw [← HLEN.out] at hl'
          obtain ⟨ad, rfl, c0, c1, hlt⟩ := way_cells hl' Br hab
          have HR := Lib.hid ((depT_succ E j a b (depN E k) hab).trans (dep1_upd _ a b))
          have hda := HBD.out j a
          have hdb := HBD.out j b
          generalize depT E j (depN E k) = t at *
          have c2 : wr.cell? ⟨w.heap.size, a, none⟩ = some (.int .i64 ((t a : Nat) : Int)) := by rw [hb.cell]; exact natsA_get t hab'.1
          have c3 : wr.cell? ⟨w.heap.size, b, none⟩ = some (.int .i64 ((t b : Nat) : Int)) := by rw [hb.cell]; exact natsA_get t hab'.2
          have f3 := hb.frozen b
          have zb := hb.lt
          have a0 : (0 : Int) ≤ (a : Int) := by omega
          have a1 : (a : Int) < (n : Int) := by have := hab'.1; omega
          have b0 : (0 : Int) ≤ (b : Int) := by omega
          have b1 : (b : Int) < (n : Int) := by have := hab'.2; omega
          have j0 : (0 : Int) ≤ (j : Int) := by omega
          have j1 : (j : Int) < (m : Int) := by omega
          have hcd : ((max (t b) (t a + 1) : Nat) : Int) = max ((t b : Nat) : Int) (((t a : Nat) : Int) + 1) := by omega
          have hput0 := hb.put b (.int .i64 ((max (t b) (t a + 1) : Nat) : Int)) (natsA_set n b _ t)
          rw [hcd] at hput0
          have hput := Lib.hid hput0
          have Bp := below_put (p := ⟨w.heap.size, b, none⟩) Br (Nat.le_refl _) (.int .i64 (max ((t b : Nat) : Int) (((t a : Nat) : Int) + 1)))
          clear hab hab' hl' hb hcd hput0 HBD
          go_upto_region 8 with (fail)
          go_region
          go_wp2
          go_roundw
          case rel => exact ⟨j + 1, by go_num, by omega, by rw [HR.out]; exact hput.out, below_drewN Bp 1⟩
          case measure => simp [intOf]; omega
        · have d1 : decide ((j : Int) < (m : Int)) = false := decide_eq_false (by omega)
          rw [depT_all E j _ (by rw [HLEN.out]; omega)] at hb
          have HB := Lib.hid (show Blk wr w.heap.size 3 (natsA n (depN E (k + 1))) from hb)
          clear hb
          go_wp2
          go_roundw
          case rel => exact ⟨k + 1, by go_num, by omega, HB.out, Br⟩
          case measure => simp [intOf]; omega
    · have d0 : decide ((k : Int) < (n : Int)) = false := decide_eq_false (by omega)
      have hk' : n = k := by omega
      subst hk'
      clear hk
      go_wp2
      go_ret
      exact ⟨_, rfl, Nat.le_refl _, HB.out, Br⟩
end Go.Proofs.YtdgclggmemciaaaDoor
