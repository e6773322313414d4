/- ContainsFunc of deps, of ints. -/
import Derived.Test.YtbnnbhblfclomaaDoorB1
namespace Go.Proofs.YtbnnbhblfclomaaDoor
open Go.RowKit
set_option linter.unusedSimpArgs false
set_option linter.unusedVariables false
def IxSaid (b : Bool) (w : World) (y : Ending) (w' : World) : Prop := (∃ r : Int, y = .returned (.int .i64 r) ∧ (0 ≤ r ↔ b = true)) ∧ Below w.heap.size w w'
set_option maxRecDepth 100000 in
set_option maxHeartbeats 1000000 in
theorem ixD42 (gn : Nat) (P : Dp → Bool) (v : Value) (D : List Dp) (w : World) (hD : RdD w v w.heap.size D) (hl : D.length ≤ 4096)
    (hC : ∀ W, Below w.heap.size w W → ∀ d : Dp, d ∈ D → Calls Tryd.prog 42 #[.agg #[.int .i64 d.on, .int .i64 d.of_, .int .i64 d.m], .pointer (some ⟨gn, 0, none⟩)] W fun x w' => x = .returned (.bool (P d)) ∧ Below W.heap.size W w') :
    Calls Tryd.prog 43 #[v, .func (.func 42) #[] #[.pointer (some ⟨gn, 0, none⟩)]] w (IxSaid (D.any P) w) := by
  obtain ⟨A, cap, rfl⟩ := hD.form
  have HI := Lib.hid hD
  have HC := Lib.hid hC
  clear hD hC
  go_enter Tryd.func43, Tryd.ntmps43
  go_upto_region 2 with (fail)
  go_loopw [8] (fun iv wr => ∃ k : Nat, iv = .int .i64 k ∧ k ≤ D.length ∧ (∀ j, j < k → P (D.getD j dp0) = false) ∧ Below w.heap.size w wr) (fun iv _ => D.length - (intOf iv).toNat)
  case atStart => exact ⟨0, rfl, Nat.zero_le _, fun j hj => by omega, Below.refl _ _⟩
  case round =>
    obtain ⟨k, rfl, hk, hno, bel⟩ := hrel
    have HN := Lib.hid hno
    have BEL := Lib.hid bel
    have k0 : (0 : Int) ≤ k := by omega
    clear hno bel
    by_cases hkm : k < D.length
    · have d0 : (k : Int) < (D.length : Int) := by omega
      obtain ⟨g, o, rfl, hg, c0, c1, c2⟩ := (HI.out.below BEL.out (Nat.le_refl _)).cell hkm
      have z0 := World.block_lt_of_cell? _ _ c0
      have hmem : D.getD k dp0 ∈ D := by rw [List.getD_eq_getElem?_getD, List.getElem?_eq_getElem hkm]; exact List.getElem_mem _
      have HM := Lib.hid hmem
      have AW := Lib.hid (HC.out wr BEL.out _ hmem)
      have HD := Lib.hid (show ∀ d, D.getD k dp0 = d → P d = P (D.getD k dp0) from fun d h => by rw [h])
      generalize hd : D.getD k dp0 = d at *
      obtain ⟨a, b, c⟩ := d
      dsimp only at c0 c1 c2 AW
      clear hmem HD
      go_wp2_with (fail)
      refine AW.out.mono ?_
      rintro x w2 ⟨rfl, B2⟩
      have B3 := Lib.hid (below_trans BEL.out B2)
      clear B2 AW
      cases hr : P ⟨a, b, c⟩ with
      | true =>
        have HA := Lib.hid (show D.any P = true by rw [List.any_eq_true]; exact ⟨_, HM.out, hr⟩)
        clear hr
        go_wp2_with (fail)
        go_ret
        exact ⟨⟨k, rfl, fun _ => HA.out, fun _ => k0⟩, B3.out⟩
      | false =>
        have HN2 := Lib.hid (show ∀ j, j < k + 1 → P (D.getD j dp0) = false from fun j hj => by
          by_cases h : j = k
          · subst h; rw [hd]; exact hr
          · exact HN.out j (by omega))
        clear hr
        go_wp2_with (fail)
        go_roundw
        case rel => exact ⟨k + 1, by go_num, by omega, HN2.out, B3.out⟩
        case measure => simp [intOf]; omega
    · have d0 : ¬ (k : Int) < (D.length : Int) := by omega
      have HA := Lib.hid (show ¬ D.any P = true by
        rw [List.any_eq_true]
        rintro ⟨e, he, ha⟩
        obtain ⟨j, hj, rfl⟩ := List.mem_iff_getElem.1 he
        have := HN.out j (by omega)
        rw [List.getD_eq_getElem?_getD, List.getElem?_eq_getElem hj, Option.getD_some] at this
        rw [this] at ha
        cases ha)
      go_wp2_with (fail)
      go_ret
      exact ⟨⟨-1, rfl, fun h => by omega, fun h => absurd h HA.out⟩, BEL.out⟩
theorem hasD42 (gn : Nat) (P : Dp → Bool) (v : Value) (D : List Dp) (w : World) (hD : RdD w v w.heap.size D) (hl : D.length ≤ 4096)
    (hC : ∀ W, Below w.heap.size w W → ∀ d : Dp, d ∈ D → Calls Tryd.prog 42 #[.agg #[.int .i64 d.on, .int .i64 d.of_, .int .i64 d.m], .pointer (some ⟨gn, 0, none⟩)] W fun x w' => x = .returned (.bool (P d)) ∧ Below W.heap.size W w') :
    Calls Tryd.prog 28 #[v, .func (.func 42) #[] #[.pointer (some ⟨gn, 0, none⟩)]] w fun x w' => x = .returned (.bool (D.any P)) ∧ Below w.heap.size w w' := by
  have IX := Lib.hid (ixD42 gn P v D w hD hl hC)
  obtain ⟨A, cap, rfl⟩ := hD.form
  generalize D.any P = b at *
  clear hD hC
  go_enter Tryd.func28, Tryd.ntmps28
  go_wp2_with (fail)
  refine IX.out.mono ?_
  rintro x w2 ⟨⟨r, rfl, hr⟩, B⟩
  have d0 : decide (0 ≤ r) = b := by
    cases b
    · exact decide_eq_false (fun h => by have := hr.1 h; cases this)
    · exact decide_eq_true (hr.2 rfl)
  have B := Lib.hid B
  clear hr
  go_wp2_with (fail)
  go_ret
  exact ⟨by first | trivial | rfl, B.out⟩
set_option maxRecDepth 100000 in
set_option maxHeartbeats 1000000 in
theorem ixD26 (P : Dp → Bool) (v : Value) (D : List Dp) (w : World) (hD : RdD w v w.heap.size D) (hl : D.length ≤ 4096)
    (hC : ∀ W, Below w.heap.size w W → ∀ d : Dp, d ∈ D → Calls Tryd.prog 26 #[.agg #[.int .i64 d.on, .int .i64 d.of_, .int .i64 d.m]] W fun x w' => x = .returned (.bool (P d)) ∧ Below W.heap.size W w') :
    Calls Tryd.prog 43 #[v, .func (.func 26) #[] #[]] w (IxSaid (D.any P) w) := by
  obtain ⟨A, cap, rfl⟩ := hD.form
  have HI := Lib.hid hD
  have HC := Lib.hid hC
  clear hD hC
  go_enter Tryd.func43, Tryd.ntmps43
  go_upto_region 2 with (fail)
  go_loopw [8] (fun iv wr => ∃ k : Nat, iv = .int .i64 k ∧ k ≤ D.length ∧ (∀ j, j < k → P (D.getD j dp0) = false) ∧ Below w.heap.size w wr) (fun iv _ => D.length - (intOf iv).toNat)
  case atStart => exact ⟨0, rfl, Nat.zero_le _, fun j hj => by omega, Below.refl _ _⟩
  case round =>
    obtain ⟨k, rfl, hk, hno, bel⟩ := hrel
    have HN := Lib.hid hno
    have BEL := Lib.hid bel
    have k0 : (0 : Int) ≤ k := by omega
    clear hno bel
    by_cases hkm : k < D.length
    · have d0 : (k : Int) < (D.length : Int) := by omega
      obtain ⟨g, o, rfl, hg, c0, c1, c2⟩ := (HI.out.below BEL.out (Nat.le_refl _)).cell hkm
      have z0 := World.block_lt_of_cell? _ _ c0
      have hmem : D.getD k dp0 ∈ D := by rw [List.getD_eq_getElem?_getD, List.getElem?_eq_getElem hkm]; exact List.getElem_mem _
      have HM := Lib.hid hmem
      have AW := Lib.hid (HC.out wr BEL.out _ hmem)
      have HD := Lib.hid (show ∀ d, D.getD k dp0 = d → P d = P (D.getD k dp0) from fun d h => by rw [h])
      generalize hd : D.getD k dp0 = d at *
      obtain ⟨a, b, c⟩ := d
      dsimp only at c0 c1 c2 AW
      clear hmem HD
      go_wp2_with (fail)
      refine AW.out.mono ?_
      rintro x w2 ⟨rfl, B2⟩
      have B3 := Lib.hid (below_trans BEL.out B2)
      clear B2 AW
      cases hr : P ⟨a, b, c⟩ with
      | true =>
        have HA := Lib.hid (show D.any P = true by rw [List.any_eq_true]; exact ⟨_, HM.out, hr⟩)
        clear hr
        go_wp2_with (fail)
        go_ret
        exact ⟨⟨k, rfl, fun _ => HA.out, fun _ => k0⟩, B3.out⟩
      | false =>
        have HN2 := Lib.hid (show ∀ j, j < k + 1 → P (D.getD j dp0) = false from fun j hj => by
          by_cases h : j = k
          · subst h; rw [hd]; exact hr
          · exact HN.out j (by omega))
        clear hr
        go_wp2_with (fail)
        go_roundw
        case rel => exact ⟨k + 1, by go_num, by omega, HN2.out, B3.out⟩
        case measure => simp [intOf]; omega
    · have d0 : ¬ (k : Int) < (D.length : Int) := by omega
      have HA := Lib.hid (show ¬ D.any P = true by
        rw [List.any_eq_true]
        rintro ⟨e, he, ha⟩
        obtain ⟨j, hj, rfl⟩ := List.mem_iff_getElem.1 he
        have := HN.out j (by omega)
        rw [List.getD_eq_getElem?_getD, List.getElem?_eq_getElem hj, Option.getD_some] at this
        rw [this] at ha
        cases ha)
      go_wp2_with (fail)
      go_ret
      exact ⟨⟨-1, rfl, fun h => by omega, fun h => absurd h HA.out⟩, BEL.out⟩
theorem hasD26 (P : Dp → Bool) (v : Value) (D : List Dp) (w : World) (hD : RdD w v w.heap.size D) (hl : D.length ≤ 4096)
    (hC : ∀ W, Below w.heap.size w W → ∀ d : Dp, d ∈ D → Calls Tryd.prog 26 #[.agg #[.int .i64 d.on, .int .i64 d.of_, .int .i64 d.m]] W fun x w' => x = .returned (.bool (P d)) ∧ Below W.heap.size W w') :
    Calls Tryd.prog 28 #[v, .func (.func 26) #[] #[]] w fun x w' => x = .returned (.bool (D.any P)) ∧ Below w.heap.size w w' := by
  have IX := Lib.hid (ixD26 P v D w hD hl hC)
  obtain ⟨A, cap, rfl⟩ := hD.form
  generalize D.any P = b at *
  clear hD hC
  go_enter Tryd.func28, Tryd.ntmps28
  go_wp2_with (fail)
  refine IX.out.mono ?_
  rintro x w2 ⟨⟨r, rfl, hr⟩, B⟩
  have d0 : decide (0 ≤ r) = b := by
    cases b
    · exact decide_eq_false (fun h => by have := hr.1 h; cases this)
    · exact decide_eq_true (hr.2 rfl)
  have B := Lib.hid B
  clear hr
  go_wp2_with (fail)
  go_ret
  exact ⟨by first | trivial | rfl, B.out⟩
set_option maxRecDepth 100000 in
set_option maxHeartbeats 1000000 in
theorem ixD29 (ga gb : Nat) (P : Dp → Bool) (v : Value) (D : List Dp) (w : World) (hD : RdD w v w.heap.size D) (hl : D.length ≤ 4096)
    (hC : ∀ W, Below w.heap.size w W → ∀ d : Dp, d ∈ D → Calls Tryd.prog 29 #[.agg #[.int .i64 d.on, .int .i64 d.of_, .int .i64 d.m], .pointer (some ⟨ga, 0, none⟩), .pointer (some ⟨gb, 0, none⟩)] W fun x w' => x = .returned (.bool (P d)) ∧ Below W.heap.size W w') :
    Calls Tryd.prog 43 #[v, .func (.func 29) #[] #[.pointer (some ⟨ga, 0, none⟩), .pointer (some ⟨gb, 0, none⟩)]] w (IxSaid (D.any P) w) := by
  obtain ⟨A, cap, rfl⟩ := hD.form
  have HI := Lib.hid hD
  have HC := Lib.hid hC
  clear hD hC
  go_enter Tryd.func43, Tryd.ntmps43
  go_upto_region 2 with (fail)
  go_loopw [8] (fun iv wr => ∃ k : Nat, iv = .int .i64 k ∧ k ≤ D.length ∧ (∀ j, j < k → P (D.getD j dp0) = false) ∧ Below w.heap.size w wr) (fun iv _ => D.length - (intOf iv).toNat)
  case atStart => exact ⟨0, rfl, Nat.zero_le _, fun j hj => by omega, Below.refl _ _⟩
  case round =>
    obtain ⟨k, rfl, hk, hno, bel⟩ := hrel
    have HN := Lib.hid hno
    have BEL := Lib.hid bel
    have k0 : (0 : Int) ≤ k := by omega
    clear hno bel
    by_cases hkm : k < D.length
    · have d0 : (k : Int) < (D.length : Int) := by omega
      obtain ⟨g, o, rfl, hg, c0, c1, c2⟩ := (HI.out.below BEL.out (Nat.le_refl _)).cell hkm
      have z0 := World.block_lt_of_cell? _ _ c0
      have hmem : D.getD k dp0 ∈ D := by rw [List.getD_eq_getElem?_getD, List.getElem?_eq_getElem hkm]; exact List.getElem_mem _
      have HM := Lib.hid hmem
      have AW := Lib.hid (HC.out wr BEL.out _ hmem)
      have HD := Lib.hid (show ∀ d, D.getD k dp0 = d → P d = P (D.getD k dp0) from fun d h => by rw [h])
      generalize hd : D.getD k dp0 = d at *
      obtain ⟨a, b, c⟩ := d
      dsimp only at c0 c1 c2 AW
      clear hmem HD
      go_wp2_with (fail)
      refine AW.out.mono ?_
      rintro x w2 ⟨rfl, B2⟩
      have B3 := Lib.hid (below_trans BEL.out B2)
      clear B2 AW
      cases hr : P ⟨a, b, c⟩ with
      | true =>
        have HA := Lib.hid (show D.any P = true by rw [List.any_eq_true]; exact ⟨_, HM.out, hr⟩)
        clear hr
        go_wp2_with (fail)
        go_ret
        exact ⟨⟨k, rfl, fun _ => HA.out, fun _ => k0⟩, B3.out⟩
      | false =>
        have HN2 := Lib.hid (show ∀ j, j < k + 1 → P (D.getD j dp0) = false from fun j hj => by
          by_cases h : j = k
          · subst h; rw [hd]; exact hr
          · exact HN.out j (by omega))
        clear hr
        go_wp2_with (fail)
        go_roundw
        case rel => exact ⟨k + 1, by go_num, by omega, HN2.out, B3.out⟩
        case measure => simp [intOf]; omega
    · have d0 : ¬ (k : Int) < (D.length : Int) := by omega
      have HA := Lib.hid (show ¬ D.any P = true by
        rw [List.any_eq_true]
        rintro ⟨e, he, ha⟩
        obtain ⟨j, hj, rfl⟩ := List.mem_iff_getElem.1 he
        have := HN.out j (by omega)
        rw [List.getD_eq_getElem?_getD, List.getElem?_eq_getElem hj, Option.getD_some] at this
        rw [this] at ha
        cases ha)
      go_wp2_with (fail)
      go_ret
      exact ⟨⟨-1, rfl, fun h => by omega, fun h => absurd h HA.out⟩, BEL.out⟩
theorem hasD29 (ga gb : Nat) (P : Dp → Bool) (v : Value) (D : List Dp) (w : World) (hD : RdD w v w.heap.size D) (hl : D.length ≤ 4096)
    (hC : ∀ W, Below w.heap.size w W → ∀ d : Dp, d ∈ D → Calls Tryd.prog 29 #[.agg #[.int .i64 d.on, .int .i64 d.of_, .int .i64 d.m], .pointer (some ⟨ga, 0, none⟩), .pointer (some ⟨gb, 0, none⟩)] W fun x w' => x = .returned (.bool (P d)) ∧ Below W.heap.size W w') :
    Calls Tryd.prog 28 #[v, .func (.func 29) #[] #[.pointer (some ⟨ga, 0, none⟩), .pointer (some ⟨gb, 0, none⟩)]] w fun x w' => x = .returned (.bool (D.any P)) ∧ Below w.heap.size w w' := by
  have IX := Lib.hid (ixD29 ga gb P v D w hD hl hC)
  obtain ⟨A, cap, rfl⟩ := hD.form
  generalize D.any P = b at *
  clear hD hC
  go_enter Tryd.func28, Tryd.ntmps28
  go_wp2_with (fail)
  refine IX.out.mono ?_
  rintro x w2 ⟨⟨r, rfl, hr⟩, B⟩
  have d0 : decide (0 ≤ r) = b := by
    cases b
    · exact decide_eq_false (fun h => by have := hr.1 h; cases this)
    · exact decide_eq_true (hr.2 rfl)
  have B := Lib.hid B
  clear hr
  go_wp2_with (fail)
  go_ret
  exact ⟨by first | trivial | rfl, B.out⟩
set_option maxRecDepth 100000 in
set_option maxHeartbeats 1000000 in
theorem ixI27 (P : Int → Bool) (v : Value) (D : List Int) (w : World) (hD : RdI w v w.heap.size D) (hl : D.length ≤ 65536)
    (hC : ∀ W, Below w.heap.size w W → ∀ d : Int, d ∈ D → Calls Tryd.prog 27 #[.int .i64 d] W fun x w' => x = .returned (.bool (P d)) ∧ Below W.heap.size W w') :
    Calls Tryd.prog 36 #[v, .func (.func 27) #[] #[]] w (IxSaid (D.any P) w) := by
  obtain ⟨A, cap, rfl⟩ := hD.form
  have HI := Lib.hid hD
  have HC := Lib.hid hC
  clear hD hC
  go_enter Tryd.func36, Tryd.ntmps36
  go_upto_region 2 with (fail)
  go_loopw [8] (fun iv wr => ∃ k : Nat, iv = .int .i64 k ∧ k ≤ D.length ∧ (∀ j, j < k → P (D.getD j 0) = false) ∧ Below w.heap.size w wr) (fun iv _ => D.length - (intOf iv).toNat)
  case atStart => exact ⟨0, rfl, Nat.zero_le _, fun j hj => by omega, Below.refl _ _⟩
  case round =>
    obtain ⟨k, rfl, hk, hno, bel⟩ := hrel
    have HN := Lib.hid hno
    have BEL := Lib.hid bel
    have k0 : (0 : Int) ≤ k := by omega
    clear hno bel
    by_cases hkm : k < D.length
    · have d0 : (k : Int) < (D.length : Int) := by omega
      obtain ⟨g, o, rfl, c0⟩ := (HI.out.below BEL.out (Nat.le_refl _)).cell hkm
      have z0 := World.block_lt_of_cell? _ _ c0
      have hmem : D.getD k 0 ∈ D := by rw [List.getD_eq_getElem?_getD, List.getElem?_eq_getElem hkm]; exact List.getElem_mem _
      have HM := Lib.hid hmem
      have AW := Lib.hid (HC.out wr BEL.out _ hmem)
      have HD := Lib.hid (show ∀ d, D.getD k 0 = d → P d = P (D.getD k 0) from fun d h => by rw [h])
      generalize hd : D.getD k 0 = d at *
      clear hmem HD
      go_wp2_with (fail)
      refine AW.out.mono ?_
      rintro x w2 ⟨rfl, B2⟩
      have B3 := Lib.hid (below_trans BEL.out B2)
      clear B2 AW
      cases hr : P d with
      | true =>
        have HA := Lib.hid (show D.any P = true by rw [List.any_eq_true]; exact ⟨_, HM.out, hr⟩)
        clear hr
        go_wp2_with (fail)
        go_ret
        exact ⟨⟨k, rfl, fun _ => HA.out, fun _ => k0⟩, B3.out⟩
      | false =>
        have HN2 := Lib.hid (show ∀ j, j < k + 1 → P (D.getD j 0) = false from fun j hj => by
          by_cases h : j = k
          · subst h; rw [hd]; exact hr
          · exact HN.out j (by omega))
        clear hr
        go_wp2_with (fail)
        go_roundw
        case rel => exact ⟨k + 1, by go_num, by omega, HN2.out, B3.out⟩
        case measure => simp [intOf]; omega
    · have d0 : ¬ (k : Int) < (D.length : Int) := by omega
      have HA := Lib.hid (show ¬ D.any P = true by
        rw [List.any_eq_true]
        rintro ⟨e, he, ha⟩
        obtain ⟨j, hj, rfl⟩ := List.mem_iff_getElem.1 he
        have := HN.out j (by omega)
        rw [List.getD_eq_getElem?_getD, List.getElem?_eq_getElem hj, Option.getD_some] at this
        rw [this] at ha
        cases ha)
      go_wp2_with (fail)
      go_ret
      exact ⟨⟨-1, rfl, fun h => by omega, fun h => absurd h HA.out⟩, BEL.out⟩
theorem hasI27 (P : Int → Bool) (v : Value) (D : List Int) (w : World) (hD : RdI w v w.heap.size D) (hl : D.length ≤ 65536)
    (hC : ∀ W, Below w.heap.size w W → ∀ d : Int, d ∈ D → Calls Tryd.prog 27 #[.int .i64 d] W fun x w' => x = .returned (.bool (P d)) ∧ Below W.heap.size W w') :
    Calls Tryd.prog 22 #[v, .func (.func 27) #[] #[]] w fun x w' => x = .returned (.bool (D.any P)) ∧ Below w.heap.size w w' := by
  have IX := Lib.hid (ixI27 P v D w hD hl hC)
  obtain ⟨A, cap, rfl⟩ := hD.form
  generalize D.any P = b at *
  clear hD hC
  go_enter Tryd.func22, Tryd.ntmps22
  go_wp2_with (fail)
  refine IX.out.mono ?_
  rintro x w2 ⟨⟨r, rfl, hr⟩, B⟩
  have d0 : decide (0 ≤ r) = b := by
    cases b
    · exact decide_eq_false (fun h => by have := hr.1 h; cases this)
    · exact decide_eq_true (hr.2 rfl)
  have B := Lib.hid B
  clear hr
  go_wp2_with (fail)
  go_ret
  exact ⟨by first | trivial | rfl, B.out⟩
end Go.Proofs.YtbnnbhblfclomaaDoor
