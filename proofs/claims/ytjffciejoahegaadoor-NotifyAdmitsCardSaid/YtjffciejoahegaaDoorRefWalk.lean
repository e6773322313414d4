/- The document's has, Bit and Reaches, and the program's Word, walked. -/
import Derived.Test.YtjffciejoahegaaDoorMoreMath
import Derived.Test.YtjffciejoahegaaDoorSure
namespace Go.Proofs.YtjffciejoahegaaDoor
open Go.RowKit
theorem half_neg (q : Int) (h : q % 2 = 1) : (q - 1).tdiv 2 = q / 2 := by
  have e : q - 1 = 2 * (q / 2) := by omega
  rw [e, Int.mul_tdiv_cancel_left _ (by decide)]
theorem half_even (q : Int) (h : q % 2 = 0) : q.tdiv 2 = q / 2 := by
  have e : q = 2 * (q / 2) := by omega
  conv => lhs; rw [e]
  rw [Int.mul_tdiv_cancel_left _ (by decide)]
theorem half_pos (q : Int) (h : 0 ≤ q) : q.tdiv 2 = q / 2 := Int.tdiv_eq_ediv_of_nonneg h
theorem odd_ne (q : Int) (h : q % 2 = 1) : (q.tmod 2 != 0) = true := by
  rw [bne_iff_ne]; intro h0
  have := Int.emod_add_mul_ediv q 2
  have h2 := Int.tmod_add_mul_tdiv q 2
  omega
theorem even_ne (q : Int) (h : q % 2 = 0) : (q.tmod 2 != 0) = false := by
  have h2 : q.tmod 2 = 0 := Int.tmod_eq_zero_of_dvd (Int.dvd_of_emod_eq_zero h)
  rw [h2]; rfl
theorem bit_half (q : Int) (i : Nat) : bitAt (q / 2) ((2 ^ i : Nat) : Int) = bitAt q ((2 ^ (i + 1) : Nat) : Int) := by
  unfold bitAt
  rw [Int.ediv_ediv, if_neg (by omega), Int.sub_zero]
  congr 3
  rw [Nat.pow_succ]; push_cast; rw [Int.mul_comm]
set_option maxHeartbeats 1000000 in
theorem has_zero (o : Int) (w : World) : Calls Tryd.prog 21 #[.int .i64 o, .int .i64 0] w fun e w' => e = .returned (.bool false) ∧ w = w' := by
  go_enter Tryd.func21, Tryd.ntmps21
  go_wp2
  go_ret
  exact ⟨rfl, rfl⟩
set_option maxRecDepth 100000 in
set_option maxHeartbeats 2000000 in
theorem has_walk (o : Int) (j : Nat) (hj : j ≤ 8) (w : World) (h1 : -9223372036854775808 ≤ o) (h2 : o ≤ 9223372036854775807) :
    Calls Tryd.prog 21 #[.int .i64 o, .int .i64 ((2 ^ j : Nat) : Int)] w fun e w' => e = .returned (.bool (bitAt o ((2 ^ j : Nat) : Int))) ∧ w = w' := by
  generalize hR : bitAt o ((2 ^ j : Nat) : Int) = R
  have HR := Lib.hid hR
  generalize hB : ((2 ^ j : Nat) : Int) = B at hR
  have hB0 : 1 ≤ B := by rw [← hB]; exact_mod_cast Nat.one_le_two_pow
  have hBu : B ≤ 256 := by rw [← hB]; exact_mod_cast Nat.pow_le_pow_right (by decide) hj
  have b0 : (B == 0) = false := beq_eq_false_iff_ne.2 (by omega)
  have HB := Lib.hid hB
  clear hR hB
  go_enter Tryd.func21, Tryd.ntmps21
  go_upto_region 3 with (fail)
  clear b0
  go_loop [0, 1] (fun o' b' => ∃ (q : Int) (i : Nat), i ≤ 8 ∧ o' = .int .i64 q ∧ b' = .int .i64 ((2 ^ i : Nat) : Int) ∧ -9223372036854775808 ≤ q ∧ q ≤ 9223372036854775807 ∧ bitAt q ((2 ^ i : Nat) : Int) = R) (fun _ b' => (intOf b').toNat)
  case atStart => exact ⟨o, j, hj, rfl, by rw [HB.out], h1, h2, HR.out⟩
  case round =>
    obtain ⟨q, i, hi, rfl, rfl, q1, q2, hq⟩ := hrel
    rcases i with _ | i
    · have HQ := Lib.hid hq
      clear hq
      have e0 : (((2 ^ 0 : Nat) : Int)) = 1 := by decide
      rw [e0]
      have HQ2 := Lib.hid (show bitAt q 1 = R from by have := HQ.out; rwa [e0] at this)
      clear HQ e0
      rcases (by omega : q % 2 = 0 ∨ q % 2 = 1) with hp | hp
      · have p := even_ne q hp
        have hF : R = false := by rw [← HQ2.out]; unfold bitAt; rw [Int.ediv_one]; exact decide_eq_false (by omega)
        subst hF
        clear hp
        go_wp2
        go_ret
        exact ⟨rfl, rfl⟩
      · have p := odd_ne q hp
        have hF : R = true := by rw [← HQ2.out]; unfold bitAt; rw [Int.ediv_one]; exact decide_eq_true (by omega)
        subst hF
        clear hp
        go_wp2
        go_ret
        exact ⟨rfl, rfl⟩
    · have HQ := Lib.hid ((bit_half q i).trans hq)
      clear hq
      have e2 : (((2 ^ (i + 1) : Nat) : Int)).tdiv 2 = ((2 ^ i : Nat) : Int) := by
        rw [Nat.pow_succ]; push_cast; rw [Int.mul_tdiv_cancel _ (by decide)]
      have hp0 : 1 ≤ ((2 ^ i : Nat) : Int) := by exact_mod_cast Nat.one_le_two_pow
      have hlt : ((2 ^ (i + 1) : Nat) : Int) = 2 * ((2 ^ i : Nat) : Int) := by rw [Nat.pow_succ]; push_cast; omega
      have HI := Lib.hid (show i ≤ 8 by omega)
      have hp8 : ((2 ^ i : Nat) : Int) ≤ 256 := by exact_mod_cast Nat.pow_le_pow_right (by decide) (show i ≤ 8 by omega)
      generalize hP : ((2 ^ (i + 1) : Nat) : Int) = P at *
      clear hP
      generalize hP' : ((2 ^ i : Nat) : Int) = P' at e2 hp0 hlt hp8
      have HP' := Lib.hid hP'
      clear hP'
      have hw64 : wrap64 P' = P' := w64 (by omega) (by omega)
      have hPu : decide (1 < P) = true := decide_eq_true (by omega)
      have HL := Lib.hid hlt
      have H0 := Lib.hid hp0
      clear hlt hp0 hi
      rcases (by omega : q % 2 = 0 ∨ q % 2 = 1) with hp | hp
      · have p := even_ne q hp
        have hh := half_even q hp
        have HP := Lib.hid hp
        clear hp
        go_wp2
        go_round
        case rel => exact ⟨q / 2, i, HI.out, by first | rfl | rw [hh], by first | (rw [HP'.out]; done) | (rw [HP'.out, hw64]; done) | (rw [HP'.out, e2]; done), by omega, by omega, HQ.out⟩
        case measure => have := HL.out; have := H0.out; (try rw [e2]); (try rw [hw64]); simp [intOf]; omega
      · have p := odd_ne q hp
        by_cases hn : q < 0
        · have hn' : decide (q < 0) = true := decide_eq_true hn
          have hh := half_neg q hp
          have hw : IntKind.i64.wrap (q - 1) = q - 1 := by rw [IntKind.wrap_i64]; omega
          have HP := Lib.hid hp
          clear hp
          go_wp2
          go_round
          case rel => exact ⟨q / 2, i, HI.out, by first | rfl | rw [hh], by first | (rw [HP'.out]; done) | (rw [HP'.out, hw64]; done) | (rw [HP'.out, e2]; done), by omega, by omega, HQ.out⟩
          case measure => have := HL.out; have := H0.out; (try rw [e2]); (try rw [hw64]); simp [intOf]; omega
        · have hn' : decide (q < 0) = false := decide_eq_false hn
          have hh := half_pos q (by omega)
          clear hp hn
          go_wp2
          go_round
          case rel => exact ⟨q / 2, i, HI.out, by first | rfl | rw [hh], by first | (rw [HP'.out]; done) | (rw [HP'.out, hw64]; done) | (rw [HP'.out, e2]; done), by omega, by omega, HQ.out⟩
          case measure => have := HL.out; have := H0.out; (try rw [e2]); (try rw [hw64]); simp [intOf]; omega
theorem has_bit (o k s : Int) (w : World) (h1 : -9223372036854775808 ≤ o) (h2 : o ≤ 9223372036854775807) :
    Calls Tryd.prog 21 #[.int .i64 o, .int .i64 (bitF k s)] w fun e w' => e = .returned (.bool (!optN o (bitF k s))) ∧ w = w' := by
  rcases bitF_pow k s with e | ⟨j, hj, e⟩
  · rw [e]
    have h0 : optN o 0 = true := by unfold optN; rw [and_zero]; rfl
    rw [h0]
    exact has_zero o w
  · rw [e, optN_pow _ _ (by omega), Bool.not_not]
    exact has_walk o j (by omega) w h1 h2
set_option maxHeartbeats 2000000 in
theorem rbit_walk (k s : Int) (w : World) : Calls Tryd.prog 14 #[.int .i64 k, .int .i64 s] w fun e w' => e = .returned (.int .i64 (bitF k s)) ∧ Below w.heap.size w w' := by
  have B0 := Below.refl w.heap.size w
  unfold bitF
  by_cases h0 : s < 0
  · have d0 : decide (s < 0) = true := decide_eq_true h0
    rw [if_pos (Or.inl h0)]; clear h0
    go_enter Tryd.func14, Tryd.ntmps14; go_wp2; go_ret; exact ⟨rfl, B0⟩
  have d0 : decide (s < 0) = false := decide_eq_false h0
  by_cases h3 : 3 < s
  · have d3 : decide (3 < s) = true := decide_eq_true h3
    rw [if_pos (Or.inr h3)]; clear h0 h3
    go_enter Tryd.func14, Tryd.ntmps14; go_wp2; go_ret; exact ⟨rfl, B0⟩
  have d3 : decide (3 < s) = false := decide_eq_false h3
  rw [if_neg (by omega)]
  by_cases k1 : k < 0
  · have d1 : decide (k < 0) = true := decide_eq_true k1
    rw [if_neg (by omega), if_neg (by omega), if_neg (by omega), if_neg (by omega)]; clear h0 h3 k1
    go_enter Tryd.func14, Tryd.ntmps14; go_wp2; go_ret; exact ⟨rfl, B0⟩
  have d1 : decide (k < 0) = false := decide_eq_false k1
  by_cases k2 : 4 < k
  · have d2 : decide (4 < k) = true := decide_eq_true k2
    rw [if_neg (by omega), if_neg (by omega), if_neg (by omega), if_neg (by omega)]; clear h0 h3 k1 k2
    go_enter Tryd.func14, Tryd.ntmps14; go_wp2; go_ret; exact ⟨rfl, B0⟩
  have ks : k = 0 ∨ k = 1 ∨ k = 2 ∨ k = 3 ∨ k = 4 := by omega
  have ss : s = 0 ∨ s = 1 ∨ s = 2 ∨ s = 3 := by omega
  clear d0 d3 d1 h0 h3 k1 k2
  rcases ks with rfl | rfl | rfl | rfl | rfl <;> rcases ss with rfl | rfl | rfl | rfl
  all_goals
    go_enter Tryd.func14, Tryd.ntmps14
    go_wp2
    go_ret
    first
      | exact ⟨rfl, B0⟩
      | exact ⟨rfl, below_al B0 _⟩
theorem word_walk (k : Int) (w : World) (hw : WordsOk w) : Calls Tryd.prog 15 #[.int .i64 k] w fun e w' =>
    e = .returned (.string (if k = 0 then ⟨#[112, 114, 111, 98, 108, 101, 109]⟩ else if k = 1 then ⟨#[114, 101, 99, 111, 118, 101, 114, 121]⟩ else if k = 2 then ⟨#[102, 108, 97, 112, 115, 116, 97, 114, 116]⟩ else if k = 3 then ⟨#[102, 108, 97, 112, 115, 116, 111, 112]⟩ else if k = 4 then ⟨#[99, 117, 115, 116, 111, 109]⟩ else ⟨#[]⟩)) ∧ w = w' := by
  obtain ⟨c0, c1, c2, c3, c4⟩ := hw
  by_cases hk : 0 ≤ k ∧ k ≤ 4
  · rcases (by omega : k = 0 ∨ k = 1 ∨ k = 2 ∨ k = 3 ∨ k = 4) with rfl | rfl | rfl | rfl | rfl
    all_goals
      go_enter Tryd.func15, Tryd.ntmps15
      go_wp2
      go_ret
      exact ⟨rfl, rfl⟩
  · rw [if_neg (by omega), if_neg (by omega), if_neg (by omega), if_neg (by omega), if_neg (by omega)]
    by_cases h0 : k < 0
    · have d0 : decide (k < 0) = true := decide_eq_true h0
      clear hk h0
      go_enter Tryd.func15, Tryd.ntmps15
      go_wp2
      go_ret
      exact ⟨rfl, rfl⟩
    · have d0 : decide (k < 0) = false := decide_eq_false h0
      have d1 : decide (5 ≤ k) = true := decide_eq_true (by omega)
      clear hk h0
      go_enter Tryd.func15, Tryd.ntmps15
      go_wp2
      go_ret
      exact ⟨rfl, rfl⟩
theorem S3k {wr w' : World} {p q r : Addr} {a b c : Value} (ha : wr.cell? p = some a) (hb : wr.cell? q = some b) (hc : wr.cell? r = some c) (h : Below wr.heap.size wr w') :
    w'.cell? p = some a ∧ w'.cell? q = some b ∧ w'.cell? r = some c ∧ Below wr.heap.size wr w' :=
  ⟨(h.cell (World.block_lt_of_cell? wr _ ha)).trans ha, (h.cell (World.block_lt_of_cell? wr _ hb)).trans hb, (h.cell (World.block_lt_of_cell? wr _ hc)).trans hc, h⟩
set_option maxRecDepth 100000 in
set_option maxHeartbeats 2000000 in
theorem rreaches_walk (en ti : Bool) (op : Int) (c : Cs) (w : World) (o1 : -9223372036854775808 ≤ op) (o2 : op ≤ 9223372036854775807) : Calls Tryd.prog 13 #[.agg #[.bool en, .bool ti, .int .i64 op], .agg c.cells] w fun e w' => e = .returned (.int .i64 (reachF en ti op c.k c.s)) ∧ Below w.heap.size w w' := by
  obtain ⟨k, s, een, tti, bl, dn, fl, ac, cop, fo⟩ := c
  unfold Cs.cells reachF
  dsimp only
  have HB := Lib.hid (rbit_walk k s)
  have HH := Lib.hid (fun w => has_bit op k s w o1 o2)
  have B0 := below_al (below_al (Below.refl w.heap.size w) (.cells #[.bool en, .bool ti, .int .i64 op] 32)) (.cells #[.int .i64 k, .int .i64 s, .bool een, .bool tti, .bool bl, .bool dn, .bool fl, .bool ac, .int .i64 cop, .int .i64 fo] 23)
  cases en
  · go_enter Tryd.func13, Tryd.ntmps13
    go_wp2
    go_ret
    exact ⟨rfl, B0⟩
  cases ti
  · go_enter Tryd.func13, Tryd.ntmps13
    go_wp2
    go_ret
    exact ⟨rfl, B0⟩
  have b2 := (Blk.new w 32 #[.bool true, .bool true, .int .i64 op]).alloc (.cells #[.int .i64 k, .int .i64 s, .bool een, .bool tti, .bool bl, .bool dn, .bool fl, .bool ac, .int .i64 cop, .int .i64 fo] 23)
  have b3 := Blk.new1 w (.cells #[.bool true, .bool true, .int .i64 op] 32) 23 #[.int .i64 k, .int .i64 s, .bool een, .bool tti, .bool bl, .bool dn, .bool fl, .bool ac, .int .i64 cop, .int .i64 fo]
  have p2 := b2.cell 2
  have c0 := b3.cell 0
  have c1 := b3.cell 1
  simp only [List.getElem?_toArray, List.getElem?_cons_succ, List.getElem?_cons_zero] at p2 c0 c1
  have P2 := Lib.hid p2; have C0 := Lib.hid c0; have C1 := Lib.hid c1
  clear p2 c0 c1 b2 b3
  go_enter Tryd.func13, Tryd.ntmps13
  go_upto_region 5 with (fail)
  generalize (w.alloc (Obj.cells #[Value.bool true, Value.bool true, Value.int IntKind.i64 op] 32)).alloc (Obj.cells #[Value.int IntKind.i64 k, Value.int IntKind.i64 s, Value.bool een, Value.bool tti, Value.bool bl, Value.bool dn, Value.bool fl, Value.bool ac, Value.int IntKind.i64 cop, Value.int IntKind.i64 fo] 23) = W at *
  generalize hgg : w.heap.size = g at *
  cases ho : optN op (bitF k s)
  all_goals
    rw [ho] at HH
    go_region_held3 (fun w' => w'.cell? ⟨g, 2, none⟩ = some (.int .i64 op) ∧ w'.cell? ⟨g + 1, 0, none⟩ = some (.int .i64 k) ∧ w'.cell? ⟨g + 1, 1, none⟩ = some (.int .i64 s) ∧ Below W.heap.size W w') (first | assumption | exact S3k (wr := W) P2.out C0.out C1.out (below_drewN (Below.refl _ _) 1) | exact S3k (wr := W) P2.out C0.out C1.out (below_trans (show _ ∧ _ ∧ _ ∧ Below W.heap.size W _ from by assumption).2.2.2 hb)) (first | (go_at_call 14; refine (HB.out _).mono ?_; rintro e w' ⟨rfl, hb⟩) | (go_at_call 21; refine (HH.out _).mono ?_; rintro e w' ⟨rfl, rfl⟩))
    all_goals
      go_wp2
      go_ret
      exact ⟨rfl, B0.trans ((show _ ∧ _ ∧ _ ∧ Below W.heap.size W _ from by assumption).2.2.2.mono (by rw [← hgg]; exact B0.size))⟩
end Go.Proofs.YtjffciejoahegaaDoor
