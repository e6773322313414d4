/- Closures of deps, check. -/
import Derived.Test.YtbnnbhblfclomaaDoorB3
import Derived.Deep.QuietTactic
import Derived.BigQuiet
namespace Go.Proofs.YtbnnbhblfclomaaDoor
open Go.RowKit
set_option linter.unusedSimpArgs false
set_option linter.unusedVariables false
set_option maxRecDepth 100000 in
theorem away42 (gn : Nat) (n : Int) (d : Dp) (w : World) (hg : w.cell? ⟨gn, 0, none⟩ = some (.int .i64 n)) :
    Calls Tryd.prog 42 #[.agg #[.int .i64 d.on, .int .i64 d.of_, .int .i64 d.m], .pointer (some ⟨gn, 0, none⟩)] w fun x w' => x = .returned (.bool (awayD n d)) ∧ Below w.heap.size w w' := by
  obtain ⟨a, b, c⟩ := d
  have zg := World.block_lt_of_cell? _ _ hg
  have B1 := below_al (Below.refl w.heap.size w) (.cells #[.int .i64 a, .int .i64 b, .int .i64 c] 64)
  have hB := Blk.new w 64 #[.int .i64 a, .int .i64 b, .int .i64 c]
  have hg1 := (B1.cell (p := ⟨gn, 0, none⟩) zg).trans hg
  have key : ∀ (b1 b2 b3 b4 : Bool), decide (a < 0) = b1 → decide (n ≤ a) = b2 → decide (b < 0) = b3 → decide (n ≤ b) = b4 →
      Calls Tryd.prog 42 #[.agg #[.int .i64 a, .int .i64 b, .int .i64 c], .pointer (some ⟨gn, 0, none⟩)] w fun x w' => x = .returned (.bool (b1 || (b2 || (b3 || b4)))) ∧ Below w.heap.size w w' := by
    intro b1 b2 b3 b4 d1 d2 d3 d4
    clear hg
    have B1 := Lib.hid B1
    go_enter Tryd.func42, Tryd.ntmps42
    go_upto_region 1 with (fail)
    generalize hW : w.alloc (Obj.cells #[.int .i64 a, .int .i64 b, .int .i64 c] 64) = W at *
    generalize hgg : w.heap.size = p at *
    have c0 : W.cell? ⟨p, 0, none⟩ = some (.int .i64 a) := by rw [hB.cell]; rfl
    have c1 : W.cell? ⟨p, 1, none⟩ = some (.int .i64 b) := by rw [hB.cell]; rfl
    have zp := hB.lt
    clear hB hW
    cases b1
    · cases b2
      · cases b3
        · cases b4
          all_goals
            go_wp2
            go_ret
            exact ⟨by simp, by first | exact B1.out | (rw [hgg]; exact B1.out)⟩
        · go_wp2
          go_ret
          exact ⟨by simp, by first | exact B1.out | (rw [hgg]; exact B1.out)⟩
      · go_wp2
        go_ret
        exact ⟨by simp, by first | exact B1.out | (rw [hgg]; exact B1.out)⟩
    · go_wp2
      go_ret
      exact ⟨by simp, by first | exact B1.out | (rw [hgg]; exact B1.out)⟩
  exact key _ _ _ _ rfl rfl rfl rfl
set_option maxRecDepth 100000 in
theorem odd26 (d : Dp) (w : World) : Calls Tryd.prog 26 #[.agg #[.int .i64 d.on, .int .i64 d.of_, .int .i64 d.m]] w fun x w' => x = .returned (.bool (oddD d)) ∧ Below w.heap.size w w' := by
  obtain ⟨a, b, c⟩ := d
  have B1 := below_al (Below.refl w.heap.size w) (.cells #[.int .i64 a, .int .i64 b, .int .i64 c] 64)
  have hB := Blk.new w 64 #[.int .i64 a, .int .i64 b, .int .i64 c]
  have key : ∀ (b1 b2 : Bool), decide (c < 0) = b1 → decide (15 < c) = b2 →
      Calls Tryd.prog 26 #[.agg #[.int .i64 a, .int .i64 b, .int .i64 c]] w fun x w' => x = .returned (.bool (b1 || b2)) ∧ Below w.heap.size w w' := by
    intro b1 b2 d1 d2
    have B1 := Lib.hid B1
    go_enter Tryd.func26, Tryd.ntmps26
    go_upto_region 1 with (fail)
    generalize hW : w.alloc (Obj.cells #[.int .i64 a, .int .i64 b, .int .i64 c] 64) = W at *
    generalize hgg : w.heap.size = p at *
    have c2 : W.cell? ⟨p, 2, none⟩ = some (.int .i64 c) := by rw [hB.cell]; rfl
    have zp := hB.lt
    clear hB hW
    cases b1
    · go_wp2
      go_ret
      exact ⟨by simp, by first | exact B1.out | (rw [hgg]; exact B1.out)⟩
    · go_wp2
      go_ret
      exact ⟨by simp, by first | exact B1.out | (rw [hgg]; exact B1.out)⟩
  exact key _ _ rfl rfl
set_option maxRecDepth 100000 in
theorem none27 (s : Int) (w : World) : Calls Tryd.prog 27 #[.int .i64 s] w fun x w' => x = .returned (.bool (noneS s)) ∧ Below w.heap.size w w' := by
  have key : ∀ (b1 b2 : Bool), decide (s < 0) = b1 → decide (3 < s) = b2 → Calls Tryd.prog 27 #[.int .i64 s] w fun x w' => x = .returned (.bool (b1 || b2)) ∧ Below w.heap.size w w' := by
    intro b1 b2 d1 d2
    go_enter Tryd.func27, Tryd.ntmps27
    cases b1
    · go_wp2
      go_ret
      exact ⟨by simp, Below.refl _ _⟩
    · go_wp2
      go_ret
      exact ⟨by simp, Below.refl _ _⟩
  exact key _ _ rfl rfl
set_option maxRecDepth 100000 in
set_option maxHeartbeats 1000000 in
theorem check_dw (v : Value) (D : List Dp) (n of_ : Int) (w : World) (hD : RdD w v w.heap.size D) (hl : D.length ≤ 60) :
    Calls Tryd.prog 25 #[v, .int .i64 n, .int .i64 of_] w fun x w' => x = .returned (errI (checkE D n of_)) ∧ Below w.heap.size w w' := by
  have B1 := below_al (Below.refl w.heap.size w) (.cells #[.int .i64 n] 3)
  have hB := Blk.new w 3 #[.int .i64 n]
  have HD1 := Lib.hid ((hD.below B1 (Nat.le_refl _)).wider B1.size)
  obtain ⟨A, cap, rfl⟩ := hD.form
  have hk : ¬ (4096 : Int) < (D.length : Int) := by omega
  have hce : checkE D n of_ = if (decide (of_ < 0) || (decide (n ≤ of_) || D.any (awayD n))) = true then 5 else 0 := by unfold checkE; rw [if_neg (by omega)]
  rw [hce]
  have HAS := Lib.hid (hasD42 w.heap.size (awayD n) (.slice A D.length cap) D (w.alloc (.cells #[.int .i64 n] 3)) HD1.out (by omega) (fun W hb d _ => away42 _ n d W ((hb.cell (p := ⟨w.heap.size, 0, none⟩) hB.lt).trans (by rw [hB.cell]; rfl))))
  have c0 : (w.alloc (.cells #[.int .i64 n] 3)).cell? ⟨w.heap.size, 0, none⟩ = some (.int .i64 n) := by rw [hB.cell]; rfl
  have z0 := hB.lt
  have BH := Lib.hid B1
  clear hD B1 hce hB
  have fin : ∀ W, Below w.heap.size w W → ∀ e, Ending.returned (errI e) = Ending.returned (errI e) ∧ Below w.heap.size w W := fun W h e => ⟨rfl, h⟩
  by_cases h1 : of_ < 0
  · rw [decide_eq_true h1, Bool.true_or, if_pos rfl]
    clear HAS
    go_enter Tryd.func25, Tryd.ntmps25
    go_upto_region 2 with (fail)
    generalize w.alloc (Obj.cells #[.int .i64 n] 3) = W at *
    generalize hgg : w.heap.size = p at *
    go_wp2_with (fail)
    go_ret
    exact ⟨rfl, by first | exact BH.out | (rw [hgg]; exact BH.out)⟩
  · rw [decide_eq_false h1, Bool.false_or]
    by_cases h2 : n ≤ of_
    · rw [decide_eq_true h2, Bool.true_or, if_pos rfl]
      clear HAS
      go_enter Tryd.func25, Tryd.ntmps25
      go_upto_region 2 with (fail)
      generalize w.alloc (Obj.cells #[.int .i64 n] 3) = W at *
      generalize hgg : w.heap.size = p at *
      go_wp2_with (fail)
      go_ret
      exact ⟨rfl, by first | exact BH.out | (rw [hgg]; exact BH.out)⟩
    · rw [decide_eq_false h2, Bool.false_or]
      generalize D.any (awayD n) = b at *
      have B3 := Lib.hid (fun w2 (B2 : Below (w.alloc (.cells #[.int .i64 n] 3)).heap.size (w.alloc (.cells #[.int .i64 n] 3)) w2) => below_step (Below.refl w.heap.size w) B2)
      cases b with
      | true =>
        rw [if_pos rfl]
        go_enter Tryd.func25, Tryd.ntmps25
        go_upto_region 2 with (fail)
        generalize w.alloc (Obj.cells #[.int .i64 n] 3) = W at *
        go_wp2_with (fail)
        refine HAS.out.mono ?_
        rintro x w2 ⟨rfl, B2⟩
        have B4 := Lib.hid (B3.out w2 B2)
        clear B2 HAS B3
        go_wp2_with (fail)
        go_ret
        exact ⟨rfl, B4.out⟩
      | false =>
        rw [if_neg (by decide)]
        go_enter Tryd.func25, Tryd.ntmps25
        go_upto_region 2 with (fail)
        generalize w.alloc (Obj.cells #[.int .i64 n] 3) = W at *
        go_wp2_with (fail)
        refine HAS.out.mono ?_
        rintro x w2 ⟨rfl, B2⟩
        have B4 := Lib.hid (B3.out w2 B2)
        clear B2 HAS B3
        go_wp2_with (fail)
        go_ret
        exact ⟨rfl, B4.out⟩
theorem bit_all : ∀ m, m < 16 → ∀ s, s < 4 → ((bits BinOp.and IntKind.i64 ((m : Nat) / 2 ^ ((s : Nat) : Int).toNat : Int) 1 == 1) = bitD (m : Nat) (s : Nat)) := by decide
theorem bit_ok (m s : Int) (hm0 : 0 ≤ m) (hm : m ≤ 15) (hs0 : 0 ≤ s) (hs : s ≤ 3) : (bits BinOp.and IntKind.i64 (m / 2 ^ s.toNat) 1 == 1) = bitD m s := by
  obtain ⟨a, rfl⟩ := Int.eq_ofNat_of_zero_le hm0
  obtain ⟨b, rfl⟩ := Int.eq_ofNat_of_zero_le hs0
  exact bit_all a (by omega) b (by omega)
set_option maxRecDepth 100000 in
set_option maxHeartbeats 1000000 in
theorem fails29 (ga gb : Nat) (of_ : Int) (A : Option Addr) (cap : Nat) (S : List Int) (d : Dp) (w : World) (ha : w.cell? ⟨ga, 0, none⟩ = some (.int .i64 of_)) (hb : w.cell? ⟨gb, 0, none⟩ = some (.slice A S.length cap))
    (hS : RdI w (.slice A S.length cap) w.heap.size S) (h0 : 0 ≤ d.on) (h1 : d.on < (S.length : Int)) (hm0 : 0 ≤ d.m) (hm : d.m ≤ 15) (hs : ∀ s, s ∈ S → 0 ≤ s ∧ s ≤ 3) :
    Calls Tryd.prog 29 #[.agg #[.int .i64 d.on, .int .i64 d.of_, .int .i64 d.m], .pointer (some ⟨ga, 0, none⟩), .pointer (some ⟨gb, 0, none⟩)] w fun x w' => x = .returned (.bool (failsD S of_ d)) ∧ Below w.heap.size w w' := by
  obtain ⟨a, b, m⟩ := d
  dsimp only at h0 h1 hm0 hm
  obtain ⟨q, rfl⟩ := Int.eq_ofNat_of_zero_le h0
  have hq : q < S.length := by omega
  obtain ⟨g, o, rfl, c0⟩ := hS.cell hq
  have hsm : S.getD q 0 ∈ S := by rw [List.getD_eq_getElem?_getD, List.getElem?_eq_getElem hq]; exact List.getElem_mem _
  obtain ⟨hs0, hs3⟩ := hs _ hsm
  have hF : failsD S of_ ⟨(q : Int), b, m⟩ = (decide (b = of_) && bitD m (S.getD q 0)) := rfl
  rw [hF]
  have B1 := below_al (Below.refl w.heap.size w) (.cells #[.int .i64 (q : Int), .int .i64 b, .int .i64 m] 64)
  have hB := Blk.new w 64 #[.int .i64 (q : Int), .int .i64 b, .int .i64 m]
  have za := World.block_lt_of_cell? _ _ ha
  have zb := World.block_lt_of_cell? _ _ hb
  have zc := World.block_lt_of_cell? _ _ c0
  have a1 := (B1.cell (p := ⟨ga, 0, none⟩) za).trans ha
  have b1 := (B1.cell (p := ⟨gb, 0, none⟩) zb).trans hb
  have c1 := (B1.cell (p := ⟨g, o + q, none⟩) zc).trans c0
  have za1 := World.block_lt_of_cell? _ _ a1
  have zb1 := World.block_lt_of_cell? _ _ b1
  have zc1 := World.block_lt_of_cell? _ _ c1
  have hql : (q : Int) < (S.length : Int) := by omega
  have q0 : (0 : Int) ≤ (q : Int) := by omega
  generalize S.getD q 0 = s at *
  have BH := Lib.hid B1
  clear hS hs hsm hF B1 c0 ha hb
  by_cases hbo : b = of_
  · rw [decide_eq_true hbo, Bool.true_and]
    subst hbo
    have hbo' : (b == b) = true := by simp
    go_enter Tryd.func29, Tryd.ntmps29
    go_upto_region 1 with (fail)
    generalize hW : w.alloc (Obj.cells #[.int .i64 (q : Int), .int .i64 b, .int .i64 m] 64) = W at *
    generalize hgg : w.heap.size = p at *
    have y0 : W.cell? ⟨p, 0, none⟩ = some (.int .i64 (q : Int)) := by rw [hB.cell]; rfl
    have y1 : W.cell? ⟨p, 1, none⟩ = some (.int .i64 b) := by rw [hB.cell]; rfl
    have y2 : W.cell? ⟨p, 2, none⟩ = some (.int .i64 m) := by rw [hB.cell]; rfl
    have zp := hB.lt
    clear hB hW
    have HBT := Lib.hid (bit_ok m s hm0 hm hs0 hs3)
    go_quiet (fail)
    have BQ := Lib.hid (below_drewN BH.out nq)
    clear BH
    rw [HBT.out]
    go_wp2_with (fail)
    go_ret
    exact ⟨rfl, by first | exact BQ.out | (rw [hgg]; exact BQ.out)⟩
  · have hbo' : (b == of_) = false := by simp [hbo]
    rw [decide_eq_false hbo, Bool.false_and]
    go_enter Tryd.func29, Tryd.ntmps29
    go_upto_region 1 with (fail)
    generalize hW : w.alloc (Obj.cells #[.int .i64 (q : Int), .int .i64 b, .int .i64 m] 64) = W at *
    generalize hgg : w.heap.size = p at *
    have y0 : W.cell? ⟨p, 0, none⟩ = some (.int .i64 (q : Int)) := by rw [hB.cell]; rfl
    have y1 : W.cell? ⟨p, 1, none⟩ = some (.int .i64 b) := by rw [hB.cell]; rfl
    have y2 : W.cell? ⟨p, 2, none⟩ = some (.int .i64 m) := by rw [hB.cell]; rfl
    have zp := hB.lt
    clear hB hW
    go_quiet (fail)
    have BQ := Lib.hid (below_drewN BH.out nq)
    clear BH
    go_wp2_with (fail)
    go_ret
    exact ⟨rfl, by first | exact BQ.out | (rw [hgg]; exact BQ.out)⟩
end Go.Proofs.YtbnnbhblfclomaaDoor
