/- The document's Admit, walked. -/
import Derived.Test.YtjffciejoahegaaDoorRefWalk
import Derived.Deep.CutRange
import Derived.Deep.CutBlock
namespace Go.Proofs.YtjffciejoahegaaDoor
open Go.RowKit
set_option maxRecDepth 100000 in
set_option maxHeartbeats 8000000 in
theorem radmit_walk (c : Cs) (w : World) (o1 : -9223372036854775808 ≤ c.op) (o2 : c.op ≤ 9223372036854775807) (o3 : -9223372036854775808 ≤ c.fo) (o4 : c.fo ≤ 9223372036854775807) :
    Calls Tryd.prog 11 #[.agg c.cells] w fun e w' => e = .returned (.int .i64 (admF c)) ∧ Below w.heap.size w w' := by
  obtain ⟨k, s, en, ti, bl, dn, fl, ac, op, fo⟩ := c
  unfold Cs.cells admF holdsF
  dsimp only at *
  generalize hA : firstF k fo [!en, !ti, bl, dn, fl && (k == 0 || k == 1), ac && k == 0, optN op (bitF k s)] 1 = A
  have HA := Lib.hid hA
  clear hA
  have HB := Lib.hid (rbit_walk k s)
  have HH := Lib.hid (fun w => has_bit op k s w o1 o2)
  have HF : (∀ (j : Nat), j ≤ 8 → ∀ w, Calls Tryd.prog 21 #[.int .i64 fo, .int .i64 ((2 ^ j : Nat) : Int)] w fun e w' => e = .returned (.bool (bitAt fo ((2 ^ j : Nat) : Int))) ∧ w = w') := fun j hj w => has_walk fo j hj w o3 o4
  clear o1 o2 o3 o4
  have hb := Blk.new w 23 #[.int .i64 k, .int .i64 s, .bool en, .bool ti, .bool bl, .bool dn, .bool fl, .bool ac, .int .i64 op, .int .i64 fo]
  have B1 := below_al (Below.refl w.heap.size w) (.cells #[.int .i64 k, .int .i64 s, .bool en, .bool ti, .bool bl, .bool dn, .bool fl, .bool ac, .int .i64 op, .int .i64 fo] 23)
  have HBK := Lib.hid hb; clear hb
  go_enter Tryd.func11, Tryd.ntmps11
  go_upto_region 3 with (fail)
  generalize w.alloc (Obj.cells #[Value.int IntKind.i64 k, Value.int IntKind.i64 s, Value.bool en, Value.bool ti, Value.bool bl, Value.bool dn, Value.bool fl, Value.bool ac, Value.int IntKind.i64 op, Value.int IntKind.i64 fo] 23) = W at *
  generalize hgg : w.heap.size = g at *
  go_loopw [4, 3, 5] (fun i p _ wr => ∃ j : Nat, j ≤ 7 ∧ i = .int .i64 ((j : Int) + 1) ∧ p = .int .i64 ((2 ^ j : Nat) : Int) ∧ A = firstF k fo ([!en, !ti, bl, dn, fl && (k == 0 || k == 1), ac && k == 0, optN op (bitF k s)].drop j) (j + 1) ∧ Blk wr g 23 #[.int .i64 k, .int .i64 s, .bool en, .bool ti, .bool bl, .bool dn, .bool fl, .bool ac, .int .i64 op, .int .i64 fo] ∧ Below w.heap.size w wr) (fun i _ _ _ => 8 - (intOf i).toNat)
  case atStart => exact ⟨0, by omega, rfl, rfl, HA.out.symm, HBK.out, by rw [hgg]; exact B1⟩
  case round =>
    obtain ⟨j, hj, rfl, rfl, hR, hblk, hbel⟩ := hrel
    have HBL := Lib.hid hblk
    obtain ⟨⟨c0, c1, c2, c3, c4, c5, c6, c7, c8, c9⟩, _, zl⟩ := cells10 hblk
    clear hblk
    rcases (by omega : j = 0 ∨ j = 1 ∨ j = 2 ∨ j = 3 ∨ j = 4 ∨ j = 5 ∨ j = 6 ∨ j = 7) with rfl | rfl | rfl | rfl | rfl | rfl | rfl | rfl
    · skip
      have HFJ := HF 1 (by decide)
      cases en
      · skip
        replace hR : A = firstF _ fo (true :: _) 1 := hR
        by_cases k4 : k = 4
        · subst k4
          have hK : ∀ w, Calls Tryd.prog 21 #[.int .i64 fo, .int .i64 2] w fun e w' => e = .returned (.bool (bitAt fo 2)) ∧ w = w' := HFJ
          clear HFJ
          cases hbb : bitAt fo 2
          · have hY : A = ((1 : Nat) : Int) := hR.trans (first_yes (by simp [heldF]; simpa using hbb))
            simp at hY
            rw [hbb] at hK
            have HK := Lib.hid hK
            clear hK hR hbb
            go_wp2_with (fail)
            refine (HK.out _).mono ?_
            rintro e w1 ⟨rfl, rfl⟩
            clear HK
            go_wp2
            go_ret
            exact ⟨by first | rfl | (rw [hY]; done) | (rw [hY]; rfl), hbel⟩
          · have hN : A = firstF 4 fo _ 2 := hR.trans (first_no (by simp [heldF]; simpa using hbb))
            rw [hbb] at hK
            have HK := Lib.hid hK
            clear hK hR hbb
            go_wp2_with (fail)
            refine (HK.out _).mono ?_
            rintro e w1 ⟨rfl, rfl⟩
            clear HK
            go_wp2
            go_roundw
            case rel => exact ⟨1, by omega, by go_num, by go_num, hN, HBL.out, hbel⟩
            case measure => simp [intOf]
        · have b4 : (k == 4) = false := beq_eq_false_iff_ne.2 k4
          have hY : A = ((1 : Nat) : Int) := hR.trans (first_yes (by simp [heldF, k4]))
          simp at hY
          clear hR
          clear HFJ
          go_wp2
          go_ret
          exact ⟨by first | rfl | (rw [hY]; done) | (rw [hY]; rfl), hbel⟩
      · skip
        replace hR : A = firstF _ fo (false :: _) 1 := hR
        have hN : A = firstF _ fo _ 2 := hR.trans (first_no (by simp [heldF]))
        clear hR
        clear HFJ
        go_wp2
        go_roundw
        case rel => exact ⟨1, by omega, by go_num, by go_num, hN, HBL.out, hbel⟩
        case measure => simp [intOf]
    · skip
      have HFJ := HF 2 (by decide)
      cases ti
      · skip
        replace hR : A = firstF _ fo (true :: _) 2 := hR
        by_cases k4 : k = 4
        · subst k4
          have hK : ∀ w, Calls Tryd.prog 21 #[.int .i64 fo, .int .i64 4] w fun e w' => e = .returned (.bool (bitAt fo 4)) ∧ w = w' := HFJ
          clear HFJ
          cases hbb : bitAt fo 4
          · have hY : A = ((2 : Nat) : Int) := hR.trans (first_yes (by simp [heldF]; simpa using hbb))
            simp at hY
            rw [hbb] at hK
            have HK := Lib.hid hK
            clear hK hR hbb
            go_wp2_with (fail)
            refine (HK.out _).mono ?_
            rintro e w1 ⟨rfl, rfl⟩
            clear HK
            go_wp2
            go_ret
            exact ⟨by first | rfl | (rw [hY]; done) | (rw [hY]; rfl), hbel⟩
          · have hN : A = firstF 4 fo _ 3 := hR.trans (first_no (by simp [heldF]; simpa using hbb))
            rw [hbb] at hK
            have HK := Lib.hid hK
            clear hK hR hbb
            go_wp2_with (fail)
            refine (HK.out _).mono ?_
            rintro e w1 ⟨rfl, rfl⟩
            clear HK
            go_wp2
            go_roundw
            case rel => exact ⟨2, by omega, by go_num, by go_num, hN, HBL.out, hbel⟩
            case measure => simp [intOf]
        · have b4 : (k == 4) = false := beq_eq_false_iff_ne.2 k4
          have hY : A = ((2 : Nat) : Int) := hR.trans (first_yes (by simp [heldF, k4]))
          simp at hY
          clear hR
          clear HFJ
          go_wp2
          go_ret
          exact ⟨by first | rfl | (rw [hY]; done) | (rw [hY]; rfl), hbel⟩
      · skip
        replace hR : A = firstF _ fo (false :: _) 2 := hR
        have hN : A = firstF _ fo _ 3 := hR.trans (first_no (by simp [heldF]))
        clear hR
        clear HFJ
        go_wp2
        go_roundw
        case rel => exact ⟨2, by omega, by go_num, by go_num, hN, HBL.out, hbel⟩
        case measure => simp [intOf]
    · skip
      have HFJ := HF 3 (by decide)
      cases bl
      · skip
        replace hR : A = firstF _ fo (false :: _) 3 := hR
        have hN : A = firstF _ fo _ 4 := hR.trans (first_no (by simp [heldF]))
        clear hR
        clear HFJ
        go_wp2
        go_roundw
        case rel => exact ⟨3, by omega, by go_num, by go_num, hN, HBL.out, hbel⟩
        case measure => simp [intOf]
      · skip
        replace hR : A = firstF _ fo (true :: _) 3 := hR
        by_cases k4 : k = 4
        · subst k4
          have hK : ∀ w, Calls Tryd.prog 21 #[.int .i64 fo, .int .i64 8] w fun e w' => e = .returned (.bool (bitAt fo 8)) ∧ w = w' := HFJ
          clear HFJ
          cases hbb : bitAt fo 8
          · have hY : A = ((3 : Nat) : Int) := hR.trans (first_yes (by simp [heldF]; simpa using hbb))
            simp at hY
            rw [hbb] at hK
            have HK := Lib.hid hK
            clear hK hR hbb
            go_wp2_with (fail)
            refine (HK.out _).mono ?_
            rintro e w1 ⟨rfl, rfl⟩
            clear HK
            go_wp2
            go_ret
            exact ⟨by first | rfl | (rw [hY]; done) | (rw [hY]; rfl), hbel⟩
          · have hN : A = firstF 4 fo _ 4 := hR.trans (first_no (by simp [heldF]; simpa using hbb))
            rw [hbb] at hK
            have HK := Lib.hid hK
            clear hK hR hbb
            go_wp2_with (fail)
            refine (HK.out _).mono ?_
            rintro e w1 ⟨rfl, rfl⟩
            clear HK
            go_wp2
            go_roundw
            case rel => exact ⟨3, by omega, by go_num, by go_num, hN, HBL.out, hbel⟩
            case measure => simp [intOf]
        · have b4 : (k == 4) = false := beq_eq_false_iff_ne.2 k4
          have hY : A = ((3 : Nat) : Int) := hR.trans (first_yes (by simp [heldF, k4]))
          simp at hY
          clear hR
          clear HFJ
          go_wp2
          go_ret
          exact ⟨by first | rfl | (rw [hY]; done) | (rw [hY]; rfl), hbel⟩
    · skip
      have HFJ := HF 4 (by decide)
      cases dn
      · skip
        replace hR : A = firstF _ fo (false :: _) 4 := hR
        have hN : A = firstF _ fo _ 5 := hR.trans (first_no (by simp [heldF]))
        clear hR
        clear HFJ
        go_wp2
        go_roundw
        case rel => exact ⟨4, by omega, by go_num, by go_num, hN, HBL.out, hbel⟩
        case measure => simp [intOf]
      · skip
        replace hR : A = firstF _ fo (true :: _) 4 := hR
        by_cases k4 : k = 4
        · subst k4
          have hK : ∀ w, Calls Tryd.prog 21 #[.int .i64 fo, .int .i64 16] w fun e w' => e = .returned (.bool (bitAt fo 16)) ∧ w = w' := HFJ
          clear HFJ
          cases hbb : bitAt fo 16
          · have hY : A = ((4 : Nat) : Int) := hR.trans (first_yes (by simp [heldF]; simpa using hbb))
            simp at hY
            rw [hbb] at hK
            have HK := Lib.hid hK
            clear hK hR hbb
            go_wp2_with (fail)
            refine (HK.out _).mono ?_
            rintro e w1 ⟨rfl, rfl⟩
            clear HK
            go_wp2
            go_ret
            exact ⟨by first | rfl | (rw [hY]; done) | (rw [hY]; rfl), hbel⟩
          · have hN : A = firstF 4 fo _ 5 := hR.trans (first_no (by simp [heldF]; simpa using hbb))
            rw [hbb] at hK
            have HK := Lib.hid hK
            clear hK hR hbb
            go_wp2_with (fail)
            refine (HK.out _).mono ?_
            rintro e w1 ⟨rfl, rfl⟩
            clear HK
            go_wp2
            go_roundw
            case rel => exact ⟨4, by omega, by go_num, by go_num, hN, HBL.out, hbel⟩
            case measure => simp [intOf]
        · have b4 : (k == 4) = false := beq_eq_false_iff_ne.2 k4
          have hY : A = ((4 : Nat) : Int) := hR.trans (first_yes (by simp [heldF, k4]))
          simp at hY
          clear hR
          clear HFJ
          go_wp2
          go_ret
          exact ⟨by first | rfl | (rw [hY]; done) | (rw [hY]; rfl), hbel⟩
    · skip
      have HFJ := HF 5 (by decide)
      cases fl
      · skip
        replace hR : A = firstF _ fo (false :: _) 5 := hR
        have hN : A = firstF _ fo _ 6 := hR.trans (first_no (by simp [heldF]))
        clear hR
        clear HFJ
        go_wp2
        go_roundw
        case rel => exact ⟨5, by omega, by go_num, by go_num, hN, HBL.out, hbel⟩
        case measure => simp [intOf]
      · by_cases k0 : k = 0
        · subst k0
          replace hR : A = firstF _ fo (true :: _) 5 := hR
          have hY : A = ((5 : Nat) : Int) := hR.trans (first_yes (by simp [heldF]))
          simp at hY
          clear hR
          clear HFJ
          go_wp2
          go_ret
          exact ⟨by first | rfl | (rw [hY]; done) | (rw [hY]; rfl), hbel⟩
        · by_cases k1 : k = 1
          · subst k1
            replace hR : A = firstF _ fo (true :: _) 5 := hR
            have hY : A = ((5 : Nat) : Int) := hR.trans (first_yes (by simp [heldF]))
            simp at hY
            clear hR
            clear HFJ
            go_wp2
            go_ret
            exact ⟨by first | rfl | (rw [hY]; done) | (rw [hY]; rfl), hbel⟩
          · rw [show (true && (k == 0 || k == 1)) = false from by rw [show (k == 0) = false from beq_eq_false_iff_ne.2 k0, show (k == 1) = false from beq_eq_false_iff_ne.2 k1]; rfl] at hR
            replace hR : A = firstF _ fo (false :: _) 5 := hR
            by_cases k2 : k < 2
            · have e1 : decide (k < 2) = true := decide_eq_true k2
              have e2 : decide (0 ≤ k) = false := decide_eq_false (by omega)
              have hN : A = firstF _ fo _ 6 := hR.trans (first_no (by simp [heldF]))
              clear hR
              clear HFJ
              go_wp2
              go_roundw
              case rel => exact ⟨5, by omega, by go_num, by go_num, hN, HBL.out, hbel⟩
              case measure => simp [intOf]
            · have e1 : decide (k < 2) = false := decide_eq_false k2
              have hN : A = firstF _ fo _ 6 := hR.trans (first_no (by simp [heldF]))
              clear hR
              clear HFJ
              go_wp2
              go_roundw
              case rel => exact ⟨5, by omega, by go_num, by go_num, hN, HBL.out, hbel⟩
              case measure => simp [intOf]
    · skip
      have HFJ := HF 6 (by decide)
      cases ac
      · skip
        replace hR : A = firstF _ fo (false :: _) 6 := hR
        have hN : A = firstF _ fo _ 7 := hR.trans (first_no (by simp [heldF]))
        clear hR
        clear HFJ
        go_wp2
        go_roundw
        case rel => exact ⟨6, by omega, by go_num, by go_num, hN, HBL.out, hbel⟩
        case measure => simp [intOf]
      · by_cases k0 : k = 0
        · subst k0
          replace hR : A = firstF _ fo (true :: _) 6 := hR
          have hY : A = ((6 : Nat) : Int) := hR.trans (first_yes (by simp [heldF]))
          simp at hY
          clear hR
          clear HFJ
          go_wp2
          go_ret
          exact ⟨by first | rfl | (rw [hY]; done) | (rw [hY]; rfl), hbel⟩
        · have e0 : (k == 0) = false := beq_eq_false_iff_ne.2 k0
          rw [e0] at hR
          replace hR : A = firstF _ fo (false :: _) 6 := hR
          have hN : A = firstF _ fo _ 7 := hR.trans (first_no (by simp [heldF]))
          clear hR
          clear HFJ
          go_wp2
          go_roundw
          case rel => exact ⟨6, by omega, by go_num, by go_num, hN, HBL.out, hbel⟩
          case measure => simp [intOf]
    · skip
      have HFJ := HF 7 (by decide)
      have C0 := Lib.hid c0; have C1 := Lib.hid c1; have C8 := Lib.hid c8
      have HFK := Lib.hid HFJ
      clear HFJ
      go_upto_region 21 with (fail)
      go_region_held3 (fun w' => w'.cell? ⟨g, 8, none⟩ = some (.int .i64 op) ∧ w'.cell? ⟨g, 0, none⟩ = some (.int .i64 k) ∧ w'.cell? ⟨g, 1, none⟩ = some (.int .i64 s) ∧ Below wr.heap.size wr w') (first | assumption | exact S3k (wr := wr) C8.out C0.out C1.out (below_drewN (Below.refl _ _) 1) | exact S3k (wr := wr) C8.out C0.out C1.out (below_trans (show _ ∧ _ ∧ _ ∧ Below wr.heap.size wr _ from by assumption).2.2.2 hb)) (first | (go_at_call 14; refine (HB.out _).mono ?_; rintro e w' ⟨rfl, hb⟩) | (go_at_call 21; refine (HH.out _).mono ?_; rintro e w' ⟨rfl, rfl⟩))
      · skip
        have hx := (show _ ∧ _ ∧ _ ∧ Below wr.heap.size wr _ from by assumption).2.2.2
        have hb7 := HBL.out.below hx
        have hbel7 := below_trans hbel hx
        clear c0 c1 c2 c3 c4 c5 c6 c7 c8 c9 zl HBL C0 C1 C8 hx hbel
        have HBL := Lib.hid hb7
        have hbel := hbel7
        obtain ⟨⟨c0, c1, c2, c3, c4, c5, c6, c7, c8, c9⟩, _, zl⟩ := cells10 hb7
        clear hb7 hbel7
        have HFJ := HFK.out
        clear HFK
        replace hR : A = firstF k fo [optN op (bitF k s)] 7 := hR
        generalize optN op (bitF k s) = ob at *
        cases ob
        · skip
          have hN : A = firstF _ fo _ 8 := hR.trans (first_no (by simp [heldF]))
          clear hR
          clear HFJ
          go_wp2
          go_roundw
          case rel => exact ⟨7, by omega, by go_num, by go_num, hN, HBL.out, hbel⟩
          case measure => simp [intOf]
        · skip
          by_cases k4 : k = 4
          · subst k4
            have hK : ∀ w, Calls Tryd.prog 21 #[.int .i64 fo, .int .i64 128] w fun e w' => e = .returned (.bool (bitAt fo 128)) ∧ w = w' := HFJ
            clear HFJ
            cases hbb : bitAt fo 128
            · have hY : A = ((7 : Nat) : Int) := hR.trans (first_yes (by simp [heldF]; simpa using hbb))
              simp at hY
              rw [hbb] at hK
              have HK := Lib.hid hK
              clear hK hR hbb
              go_wp2_with (fail)
              refine (HK.out _).mono ?_
              rintro e w1 ⟨rfl, rfl⟩
              clear HK
              go_wp2
              go_ret
              exact ⟨by first | rfl | (rw [hY]; done) | (rw [hY]; rfl), hbel⟩
            · have hN : A = firstF 4 fo _ 8 := hR.trans (first_no (by simp [heldF]; simpa using hbb))
              rw [hbb] at hK
              have HK := Lib.hid hK
              clear hK hR hbb
              go_wp2_with (fail)
              refine (HK.out _).mono ?_
              rintro e w1 ⟨rfl, rfl⟩
              clear HK
              go_wp2
              go_roundw
              case rel => exact ⟨7, by omega, by go_num, by go_num, hN, HBL.out, hbel⟩
              case measure => simp [intOf]
          · have b4 : (k == 4) = false := beq_eq_false_iff_ne.2 k4
            have hY : A = ((7 : Nat) : Int) := hR.trans (first_yes (by simp [heldF, k4]))
            simp at hY
            clear hR
            clear HFJ
            go_wp2
            go_ret
            exact ⟨by first | rfl | (rw [hY]; done) | (rw [hY]; rfl), hbel⟩
    · skip
      have hY : A = 0 := hR
      clear hR
      go_wp2
      go_ret
      exact ⟨by first | rfl | (rw [hY]; done) | (rw [hY]; rfl), hbel⟩
end Go.Proofs.YtjffciejoahegaaDoor
