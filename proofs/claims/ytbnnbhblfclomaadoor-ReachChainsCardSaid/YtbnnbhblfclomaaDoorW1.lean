/- Whether ways can be, walked. -/
import Derived.Test.YtbnnbhblfclomaaDoorBase
import Derived.Test.YtbnnbhblfclomaaDoorG
namespace Go.Proofs.YtbnnbhblfclomaaDoor
open Go.RowKit
/-- A slice of pairs of numbers that is only read. -/
def Pairs (w : World) (v : Value) (L : List (Int × Int)) : Prop :=
  ∃ A cap, v = .slice A L.length cap ∧ L.length ≤ 9223372036854775807 ∧ (0 < L.length → ∃ ad, A = some ad ∧ ad.block < w.heap.size ∧ ∀ j, j < L.length → w.cell? (ad.add (j * 2)) = some (.int .i64 (L.getD j (0, 0)).1) ∧ w.cell? ⟨(ad.add (j * 2)).block, (ad.add (j * 2)).off + 1, none⟩ = some (.int .i64 (L.getD j (0, 0)).2))
theorem Pairs.below {w w1 : World} {v : Value} {L : List (Int × Int)} (h : Pairs w v L) (hb : Below w.heap.size w w1) : Pairs w1 v L := by
  obtain ⟨A, cap, h0, h1, h2⟩ := h
  refine ⟨A, cap, h0, h1, fun hn => ?_⟩
  obtain ⟨ad, e, hl, hc⟩ := h2 hn
  have e1 : ∀ i o p, (⟨(ad.add i).block, o, p⟩ : Addr).block < w.heap.size := fun i o p => by show (ad.add i).block < w.heap.size; rw [add_block]; exact hl
  exact ⟨ad, e, Nat.lt_of_lt_of_le hl hb.size, fun j hj => ⟨(hb.cell (p := ad.add (j * 2)) (by rw [add_block]; exact hl)).trans (hc j hj).1, (hb.cell (e1 _ _ _)).trans (hc j hj).2⟩⟩
def away (n : Int) (e : Int × Int) : Bool := decide (e.1 < 0) || decide (n ≤ e.1) || decide (e.2 < 0) || decide (n ≤ e.2)
set_option maxRecDepth 100000 in
theorem away_walk (a b n : Int) (g : Nat) (w : World) (hg : w.cell? ⟨g, 0, none⟩ = some (.int .i64 n)) (zg : g < w.heap.size) :
    Calls Tryd.prog 47 #[.agg #[.int .i64 a, .int .i64 b], .pointer (some ⟨g, 0, none⟩)] w fun x w' => x = .returned (.bool (away n (a, b))) ∧ Below w.heap.size w w' := by
  have B1 := below_al (Below.refl w.heap.size w) (.cells #[.int .i64 a, .int .i64 b] 55)
  have hB := Blk.new w 55 #[.int .i64 a, .int .i64 b]
  have hg1 := (B1.cell (p := ⟨g, 0, none⟩) zg).trans hg
  have key : ∀ (b1 b2 b3 b4 : Bool), decide (a < 0) = b1 → decide (n ≤ a) = b2 → decide (b < 0) = b3 → decide (n ≤ b) = b4 →
      Calls Tryd.prog 47 #[.agg #[.int .i64 a, .int .i64 b], .pointer (some ⟨g, 0, none⟩)] w fun x w' => x = .returned (.bool (b1 || b2 || b3 || b4)) ∧ Below w.heap.size w w' := by
    intro b1 b2 b3 b4 d1 d2 d3 d4
    clear hg
    go_enter Tryd.func47, Tryd.ntmps47
    go_upto_region 1 with (fail)
    generalize hW : w.alloc (Obj.cells #[.int .i64 a, .int .i64 b] 55) = W at *
    generalize hgg : w.heap.size = p at *
    have c0 : W.cell? ⟨p, 0, none⟩ = some (.int .i64 a) := by rw [hB.cell]; rfl
    have c1 : W.cell? ⟨p, 1, none⟩ = some (.int .i64 b) := by rw [hB.cell]; rfl
    have zp := hB.lt
    clear hB hW
    cases b1
    · cases b2
      · cases b3
        · cases b4
          all_goals
            go_wp2
            go_ret
            exact ⟨by simp, hgg ▸ B1⟩
        · go_wp2
          go_ret
          exact ⟨by simp, hgg ▸ B1⟩
      · go_wp2
        go_ret
        exact ⟨by simp, hgg ▸ B1⟩
    · go_wp2
      go_ret
      exact ⟨by simp, hgg ▸ B1⟩
  have := key _ _ _ _ rfl rfl rfl rfl
  exact this
set_option maxRecDepth 100000 in
set_option maxHeartbeats 400000 in
/-- IndexFunc with 'away'. -/
theorem index_walk (n : Int) (g : Nat) (v : Value) (L : List (Int × Int)) (w : World) (hL : Pairs w v L) (hg : w.cell? ⟨g, 0, none⟩ = some (.int .i64 n)) (zg : g < w.heap.size) :
    Calls Tryd.prog 66 #[v, .func (.func 47) #[] #[.pointer (some ⟨g, 0, none⟩)]] w fun x w' => (∃ r : Int, x = .returned (.int .i64 r) ∧ (0 ≤ r ↔ L.any (away n) = true)) ∧ Below w.heap.size w w' := by
  obtain ⟨A, cap, rfl, hbig, hp⟩ := hL
  generalize hm : L.length = m at *
  have HP := Lib.hid hp
  have HG := Lib.hid hg
  clear hp hg
  go_enter Tryd.func66, Tryd.ntmps66
  go_upto_region 2 with (fail)
  go_loopw [8] (fun iv wr => ∃ k : Nat, iv = .int .i64 k ∧ k ≤ m ∧ (∀ j, j < k → away n (L.getD j (0, 0)) = false) ∧ Below w.heap.size w wr) (fun iv _ => m - (intOf iv).toNat)
  case atStart => exact ⟨0, rfl, Nat.zero_le _, fun j hj => by omega, Below.refl _ _⟩
  case round =>
    obtain ⟨k, rfl, hk, hno, B⟩ := hrel
    have HN := Lib.hid hno
    clear hno
    by_cases hkm : k < m
    · have d0 : decide ((k : Int) < (m : Int)) = true := decide_eq_true (by omega)
      obtain ⟨ad, rfl, hl, hc⟩ := HP.out (by omega)
      obtain ⟨y0, y1⟩ := hc k hkm
      obtain ⟨a, b, hab⟩ : ∃ a b, L.getD k (0, 0) = (a, b) := ⟨_, _, rfl⟩
      rw [hab] at y0 y1
      have hmem : (a, b) ∈ L := by rw [← hab, List.getD_eq_getElem?_getD, List.getElem?_eq_getElem (by omega)]; exact List.getElem_mem _
      have e1 : ∀ o p, (⟨(ad.add (k * 2)).block, o, p⟩ : Addr).block < w.heap.size := fun o p => by show (ad.add (k * 2)).block < w.heap.size; rw [add_block]; exact hl
      have x0 := (B.cell (p := ad.add (k * 2)) (by rw [add_block]; exact hl)).trans y0
      have x1 := (B.cell (e1 _ _)).trans y1
      have xg := (B.cell (p := ⟨g, 0, none⟩) zg).trans HG.out
      have zg' := Nat.lt_of_lt_of_le zg B.size
      have AW := Lib.hid (fun W h1 h2 => away_walk a b n g W h1 h2)
      have i0 : (0 : Int) ≤ k := by omega
      have i1 : (k : Int) < m := by omega
      clear hc y0 y1 e1
      go_wp2_with (fail)
      refine (AW.out _ xg zg').mono ?_
      rintro x w2 ⟨rfl, B2⟩
      have B3 := below_trans B B2
      cases hr : away n (a, b) with
      | true =>
        have hany : L.any (away n) = true := by
          rw [List.any_eq_true]
          exact ⟨_, hmem, hr⟩
        have HA := Lib.hid hany
        clear hany
        go_wp2
        go_ret
        exact ⟨⟨k, rfl, by simp [HA.out]⟩, B3⟩
      | false =>
        go_wp2
        go_roundw
        case rel => exact ⟨k + 1, by go_num, by omega, fun j hj => by
          by_cases h : j = k
          · subst h; rw [hab]; exact hr
          · exact HN.out j (by omega), B3⟩
        case measure => simp [intOf]; omega
    · have d0 : decide ((k : Int) < (m : Int)) = false := decide_eq_false (by omega)
      have hany : ¬ L.any (away n) = true := by
        rw [List.any_eq_true]
        rintro ⟨e, he, ha⟩
        obtain ⟨j, hj, rfl⟩ := List.mem_iff_getElem.1 he
        have := HN.out j (by omega)
        rw [List.getD_eq_getElem?_getD, List.getElem?_eq_getElem hj] at this
        rw [Option.getD_some] at this
        rw [this] at ha
        cases ha
      have HA := Lib.hid hany
      clear hany
      go_wp2
      go_ret
      exact ⟨⟨-1, rfl, by simp [HA.out]⟩, B⟩
theorem contains_walk (n : Int) (g : Nat) (v : Value) (L : List (Int × Int)) (w : World) (hL : Pairs w v L) (hg : w.cell? ⟨g, 0, none⟩ = some (.int .i64 n)) (zg : g < w.heap.size) :
    Calls Tryd.prog 48 #[v, .func (.func 47) #[] #[.pointer (some ⟨g, 0, none⟩)]] w fun x w' => x = .returned (.bool (L.any (away n))) ∧ Below w.heap.size w w' := by
  have IX := Lib.hid (index_walk n g v L w hL hg zg)
  obtain ⟨A, cap, rfl, hbig, hp⟩ := hL
  clear hp hg
  go_enter Tryd.func48, Tryd.ntmps48
  go_wp2_with (fail)
  refine IX.out.mono ?_
  rintro x w2 ⟨⟨r, rfl, hr⟩, B⟩
  have d0 : decide (0 ≤ r) = L.any (away n) := by
    cases h : L.any (away n)
    · exact decide_eq_false (by rw [hr, h]; simp)
    · exact decide_eq_true (by rw [hr, h])
  clear hr
  go_wp2
  go_ret
  exact ⟨by first | trivial | rfl, B⟩
/-- What Check finds. -/
def chkF (n : Int) (L : List (Int × Int)) : Int := if n < 0 ∨ 4096 < n ∨ 1048576 < L.length then 2 else if L.any (away n) = true then 5 else 0
def errI (k : Int) : Value := if k = 0 then .nilIface else .iface 48 (.int .i64 k)
theorem check_walk (n : Int) (v : Value) (L : List (Int × Int)) (w : World) (hL : Pairs w v L) :
    Calls Tryd.prog 34 #[.int .i64 n, v] w fun x w' => x = .returned (errI (chkF n L)) ∧ Below w.heap.size w w' := by
  have B1 := below_al (Below.refl w.heap.size w) (.cells #[.int .i64 n] 3)
  have hB := Blk.new w 3 #[.int .i64 n]
  have hL1 := hL.below B1
  obtain ⟨A, cap, rfl, hbig, hp⟩ := hL
  have CT := Lib.hid (fun h => contains_walk n w.heap.size (.slice A L.length cap) L _ hL1 h hB.lt)
  clear hp hL1
  have key : ∀ (b1 b2 b3 c : Bool), decide (n < 0) = b1 → decide (4096 < n) = b2 → decide (1048576 < (L.length : Int)) = b3 → L.any (away n) = c →
      Calls Tryd.prog 34 #[.int .i64 n, .slice A L.length cap] w fun x w' => x = .returned (errI (if (b1 || b2 || b3) = true then 2 else if c = true then 5 else 0)) ∧ Below w.heap.size w w' := by
    intro b1 b2 b3 c d1 d2 d3 hc
    rw [hc] at CT
    clear hc
    go_enter Tryd.func34, Tryd.ntmps34
    go_upto_region 1 with (fail)
    generalize hW : w.alloc (Obj.cells #[.int .i64 n] 3) = W at *
    have c0 : W.cell? ⟨w.heap.size, 0, none⟩ = some (.int .i64 n) := by rw [hB.cell]; rfl
    have zp := hB.lt
    have CT' := Lib.hid (CT.out c0)
    clear hB CT hW
    cases b1
    · cases b2
      · cases b3
        · go_wp2_with (fail)
          refine CT'.out.mono ?_
          rintro x w2 ⟨rfl, B2⟩
          have B3 := below_trans B1 B2
          cases c
          all_goals
            go_wp2
            go_ret
            exact ⟨rfl, B3⟩
        · go_wp2
          go_ret
          exact ⟨rfl, B1⟩
      · go_wp2
        go_ret
        exact ⟨rfl, B1⟩
    · go_wp2
      go_ret
      exact ⟨rfl, B1⟩
  have e : chkF n L = if (decide (n < 0) || decide (4096 < n) || decide (1048576 < (L.length : Int))) = true then 2 else if L.any (away n) = true then 5 else 0 := by
    unfold chkF
    have : (n < 0 ∨ 4096 < n ∨ 1048576 < L.length) ↔ (decide (n < 0) || decide (4096 < n) || decide (1048576 < (L.length : Int))) = true := by
      simp only [Bool.or_eq_true, decide_eq_true_eq]
      omega
    by_cases h : n < 0 ∨ 4096 < n ∨ 1048576 < L.length
    · rw [if_pos h, if_pos (this.1 h)]
    · rw [if_neg h, if_neg (fun k => h (this.2 k))]
  rw [e]
  exact key _ _ _ _ rfl rfl rfl rfl
end Go.Proofs.YtbnnbhblfclomaaDoor
