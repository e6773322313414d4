/- huge, ints. -/
import Derived.Test.YtbnnbhblfclomaaDoorH3
import Derived.Deep.QuietTactic
import Derived.BigQuiet
namespace Go.Proofs.YtbnnbhblfclomaaDoor
open Go.RowKit
set_option linter.unusedSimpArgs false
set_option linter.unusedVariables false
theorem acyc_up {E : Ways} (h : ∀ a b, (a, b) ∈ E → a < b) : Acyc E := by
  have hr : ∀ {x y}, Rch E x y → x ≤ y := fun r => by
    induction r with
    | refl => exact Nat.le_refl _
    | tail _ e ih => have := h _ _ e; omega
  rintro x ⟨y, e, r⟩
  have h1 := h _ _ e
  have h2 := hr r
  omega
def HugeSaid (LL : List (List Int)) (w : World) (y : Ending) (w' : World) : Prop :=
  (∃ b, y = .returned (.bool b) ∧ (b = false → LL.length ≤ 1024 → LL.length ≤ 40 ∧ ∀ i, i < LL.length → (Par LL i).length ≤ 100)) ∧ w' = w
set_option maxRecDepth 100000 in
set_option maxHeartbeats 4000000 in
theorem huge_walk (u : Value) (LL : List (List Int)) (w : World) (hu : RdLL w u w.heap.size LL) (hLz : LL.length ≤ 9223372036854775807) (hz : ∀ i, i < LL.length → (Par LL i).length ≤ 9223372036854775807) : Calls Tryd.prog 6 #[u] w (HugeSaid LL w) := by
  obtain ⟨A, cap, rfl⟩ := hu.form
  have HU := Lib.hid hu
  have HZ := Lib.hid hz
  clear hu hz
  go_enter Tryd.func6, Tryd.ntmps6
  go_upto_region 3 with (fail)
  go_loopw [3, 4] (fun nv iv wr => ∃ (i N : Nat), nv = .int .i64 N ∧ iv = .int .i64 i ∧ i ≤ LL.length ∧ i ≤ 100 ∧ N ≤ 200 * i ∧ (∀ j, j < i → min (Par LL j).length 200 ≤ N) ∧ wr = w) (fun _ iv _ => 100 - (intOf iv).toNat)
  case atStart => exact ⟨0, 0, rfl, rfl, Nat.zero_le _, Nat.zero_le _, Nat.le_refl _, fun j hj => by omega, rfl⟩
  case round =>
    obtain ⟨i, N, rfl, rfl, hi, hi1, hN, hmin, rfl⟩ := hrel
    have HM := Lib.hid hmin
    have i0 : (0 : Int) ≤ i := by omega
    clear hmin
    have fin : ∀ b, (b = false → LL.length ≤ 1024 → LL.length ≤ 40 ∧ ∀ i, i < LL.length → (Par LL i).length ≤ 100) → HugeSaid LL wr (.returned (.bool b)) wr := fun b h => ⟨⟨b, rfl, h⟩, rfl⟩
    by_cases hlt : i < LL.length ∧ i < 100
    · obtain ⟨hl1, hl2⟩ := hlt
      have hl1' : (i : Int) < (LL.length : Int) := by omega
      have hl2' : (i : Int) < 100 := by omega
      obtain ⟨g, o, A2, c2, rfl, c0, hI⟩ := HU.out.cell hl1
      have z0 := World.block_lt_of_cell? _ _ c0
      have hpz := HZ.out i hl1
      have hmn : ∃ m : Nat, min (Par LL i).length 200 = m := ⟨_, rfl⟩
      obtain ⟨m, hm⟩ := hmn
      have hm2 : min ((Par LL i).length : Int) 200 = (m : Int) := by omega
      have hm3 : m ≤ 200 := by omega
      have HM2 := Lib.hid (show ∀ j, j < i + 1 → min (Par LL j).length 200 ≤ N + m from fun j hj => by
        by_cases h : j = i
        · subst h; omega
        · have := HM.out j (by omega); omega)
      rw [show LL.getD i [] = Par LL i from rfl] at c0
      clear hI hm fin
      go_wp2_with (fail)
      go_roundw
      case rel => exact ⟨i + 1, N + m, by go_num, by go_num, by omega, by omega, by omega, HM2.out, by first | rfl | trivial⟩
      case measure => simp [intOf]; omega
    · have FIN := Lib.hid fin
      clear fin
      have H30 := Lib.hid (show ∀ b, (N ≤ 100 ∨ b = true) → (b = false → LL.length ≤ 1024 → LL.length ≤ 30) → HugeSaid LL wr (.returned (.bool b)) wr from fun b hb h => FIN.out b fun e h2 => by
        have h3 := h e h2
        have h4 : N ≤ 100 := by rcases hb with hb | hb; exact hb; rw [e] at hb; cases hb
        refine ⟨by omega, fun j hj => ?_⟩
        have := HM.out j (by omega)
        omega)
      have key : ∀ (l1 : Prop), (i = LL.length → ¬ (i : Int) < (LL.length : Int) → l1) → (i = 100 → (i : Int) < (LL.length : Int) → ¬ (i : Int) < 100 → l1) → l1 := fun l1 a b => by
        by_cases h : i < LL.length
        · exact b (by omega) (by omega) (by omega)
        · exact a (by omega) (by omega)
      refine key _ (fun hil e1 => ?_) (fun hi100 e1 e2 => ?_)
      all_goals
        clear key HM HU HZ FIN
        by_cases g1 : (30 : Int) < (LL.length : Int)
        · by_cases g2 : (LL.length : Int) ≤ 1024
          · go_wp2_with (fail)
            go_ret
            exact H30.out _ (.inr rfl) (fun h => by cases h)
          · by_cases g3 : (100 : Int) < (N : Int)
            · go_wp2_with (fail)
              go_ret
              exact H30.out _ (.inr rfl) (fun h => by cases h)
            · go_wp2_with (fail)
              go_ret
              exact H30.out _ (.inl (by omega)) (fun _ h => by omega)
        · by_cases g3 : (100 : Int) < (N : Int)
          · go_wp2_with (fail)
            all_goals (go_ret; exact H30.out _ (.inr rfl) (fun h => by cases h))
          · go_wp2_with (fail)
            all_goals (go_ret; exact H30.out _ (.inl (by omega)) (fun _ h => by omega))
set_option maxRecDepth 100000 in
set_option maxHeartbeats 1000000 in
theorem intsI_walk (u v : Value) (L : List Int) (w : World) (hu : RdI w u w.heap.size L) (hv : RdI w v w.heap.size L) (hl : L.length ≤ 65537) :
    Calls Tryd.prog 10 #[u, v] w fun x w' => x = .returned (.bool true) ∧ Below w.heap.size w w' := by
  obtain ⟨A, cap, rfl⟩ := hu.form
  obtain ⟨A2, cap2, rfl⟩ := hv.form
  have HU := Lib.hid hu
  have HV := Lib.hid hv
  clear hu hv
  have en : ((L.length : Int) != (L.length : Int)) = false := by simp
  go_enter Tryd.func10, Tryd.ntmps10
  go_upto_region 4 with (fail)
  go_loopw [5] (fun iv wr => ∃ i : Nat, iv = .int .i64 i ∧ i ≤ L.length ∧ Below w.heap.size w wr) (fun iv _ => L.length - (intOf iv).toNat)
  case atStart => exact ⟨0, rfl, Nat.zero_le _, Below.refl _ _⟩
  case round =>
    obtain ⟨i, rfl, hi, bel⟩ := hrel
    have i0 : (0 : Int) ≤ i := by omega
    by_cases hlt : i < L.length
    · obtain ⟨g, o, rfl, c0⟩ := ((HU.out.below bel (Nat.le_refl _)).wider bel.size).cell hlt
      obtain ⟨g2, o2, rfl, d0⟩ := ((HV.out.below bel (Nat.le_refl _)).wider bel.size).cell hlt
      have hlt' : (i : Int) < (L.length : Int) := by omega
      have zg := World.block_lt_of_cell? _ _ c0
      have zg2 := World.block_lt_of_cell? _ _ d0
      generalize L.getD i 0 = E at *
      have e2 : (E != E) = false := by simp
      have BEL := Lib.hid bel
      clear bel HU HV
      go_upto_region 6 with (fail)
      go_quiet (fail)
      have B2 := Lib.hid (below_drewN BEL.out nq)
      clear BEL c0 d0 e2 zg zg2
      go_wp2_with (fail)
      go_roundw
      case rel => exact ⟨i + 1, by go_num, by omega, B2.out⟩
      case measure => simp [intOf]; omega
    · obtain rfl : i = L.length := by omega
      have BEL := Lib.hid bel
      clear bel
      go_wp2_with (fail)
      go_ret
      exact ⟨rfl, BEL.out⟩
def LL3 : List (List Int) := [[], [0], [1]]
def fs3 : List Bool := [true, true, true]
theorem ew_one {LL : List (List Int)} (h : ∀ i, i < LL.length → ∀ p, p ∈ Par LL i → p < (i : Int) ∧ 0 ≤ p) : Acyc (EW LL) ∧ Ranged LL := by
  refine ⟨acyc_up fun a b e => ?_, fun i hi p hp => ?_⟩
  · obtain ⟨hb, p, hp, rfl⟩ := mem_EW.1 e
    have := h b hb p hp; omega
  · have := h i hi p hp; omega
theorem is3 : HostsIs LL3 fs3 0 [2, 3, 3] := by
  have hw := ew_one (LL := LL3) (by
    intro i hi p hp
    have : i = 0 ∨ i = 1 ∨ i = 2 := by unfold LL3 at hi; simp at hi; omega
    rcases this with rfl | rfl | rfl
    · simp [Par, LL3] at hp
    · simp [Par, LL3] at hp; omega
    · simp [Par, LL3] at hp; omega)
  refine .inr ⟨by decide, .inr ⟨by decide, .inr ⟨hw.2, .inr ⟨hw.1, rfl, by decide⟩⟩⟩⟩
theorem read_alloc {w : World} {g : Nat} {t : TypeId} {cs : Array Value} (h : Blk w g t cs) (o : Obj) : Blk (w.alloc o) g t cs := h.alloc o
/-- The memory that sure lays. -/
def sureW (w : World) : World :=
  ((((w.alloc (.cells #[] 3)).alloc (.cells #[.int .i64 0] 3)).alloc (.cells #[.int .i64 1] 3)).alloc
    (.cells #[.slice (some ⟨w.heap.size, 0, none⟩) 0 0, .slice (some ⟨w.heap.size + 1, 0, none⟩) 1 1, .slice (some ⟨w.heap.size + 1 + 1, 0, none⟩) 1 1] 26)).alloc (.cells #[.bool true, .bool true, .bool true] 4)
theorem sureW_below (w : World) : Below w.heap.size w (sureW w) := below_al (below_al (below_al (below_al (below_al (Below.refl _ _) _) _) _) _) _
theorem sureW_size (w : World) : (sureW w).heap.size = w.heap.size + 1 + 1 + 1 + 1 + 1 := by unfold sureW; simp
theorem sureW_rd (w : World) : RdLL (sureW w) (.slice (some ⟨w.heap.size + 1 + 1 + 1, 0, none⟩) 3 3) (sureW w).heap.size LL3 ∧ RdB (sureW w) (.slice (some ⟨w.heap.size + 1 + 1 + 1 + 1, 0, none⟩) 3 3) (sureW w).heap.size fs3 := by
  have b1 : Blk (sureW w) (w.heap.size + 1) 3 #[.int .i64 0] := by
    have := (Blk.new (w.alloc (.cells #[] 3)) 3 #[.int .i64 0])
    rw [size_alloc] at this
    exact ((this.alloc _).alloc _).alloc _
  have b2 : Blk (sureW w) (w.heap.size + 1 + 1) 3 #[.int .i64 1] := by
    have := (Blk.new ((w.alloc (.cells #[] 3)).alloc (.cells #[.int .i64 0] 3)) 3 #[.int .i64 1])
    rw [size_alloc, size_alloc] at this
    exact (this.alloc _).alloc _
  have b3 : Blk (sureW w) (w.heap.size + 1 + 1 + 1) 26 #[.slice (some ⟨w.heap.size, 0, none⟩) 0 0, .slice (some ⟨w.heap.size + 1, 0, none⟩) 1 1, .slice (some ⟨w.heap.size + 1 + 1, 0, none⟩) 1 1] := by
    have := (Blk.new (((w.alloc (.cells #[] 3)).alloc (.cells #[.int .i64 0] 3)).alloc (.cells #[.int .i64 1] 3)) 26 #[.slice (some ⟨w.heap.size, 0, none⟩) 0 0, .slice (some ⟨w.heap.size + 1, 0, none⟩) 1 1, .slice (some ⟨w.heap.size + 1 + 1, 0, none⟩) 1 1])
    rw [size_alloc, size_alloc, size_alloc] at this
    exact this.alloc _
  have b4 : Blk (sureW w) (w.heap.size + 1 + 1 + 1 + 1) 4 #[.bool true, .bool true, .bool true] := by
    unfold sureW
    generalize hW : (((w.alloc (.cells #[] 3)).alloc (.cells #[.int .i64 0] 3)).alloc (.cells #[.int .i64 1] 3)).alloc _ = W
    have hs : W.heap.size = w.heap.size + 1 + 1 + 1 + 1 := by rw [← hW]; simp
    rw [← hs]
    exact Blk.new W 4 _
  have hsz := sureW_size w
  refine ⟨.inr ⟨_, 0, 3, rfl, by omega, fun i hi => ?_⟩, .inr ⟨_, 0, 3, rfl, by omega, fun i hi => ?_⟩⟩
  · have : i = 0 ∨ i = 1 ∨ i = 2 := by unfold LL3 at hi; simp at hi; omega
    rcases this with rfl | rfl | rfl
    · exact ⟨_, by rw [b3.cell]; rfl, .inl ⟨_, _, rfl, fun h => by (cases h), rfl⟩⟩
    · exact ⟨_, by rw [b3.cell]; rfl, .inr ⟨_, 0, 1, rfl, by omega, fun j hj => by
        have : j = 0 := by simp [LL3] at hj; omega
        subst this; rw [b1.cell]; rfl⟩⟩
    · exact ⟨_, by rw [b3.cell]; rfl, .inr ⟨_, 0, 1, rfl, by omega, fun j hj => by
        have : j = 0 := by simp [LL3] at hj; omega
        subst this; rw [b2.cell]; rfl⟩⟩
  · have : i = 0 ∨ i = 1 ∨ i = 2 := by unfold fs3 at hi; simp at hi; omega
    rcases this with rfl | rfl | rfl <;> (rw [b4.cell]; rfl)
set_option maxRecDepth 100000 in
set_option maxHeartbeats 4000000 in
theorem sure_walk (w : World) : Calls Tryd.prog 7 #[] w fun y w' => y = .returned (.bool true) ∧ Below w.heap.size w w' := by
  have HW := Lib.hid (hosts_walk _ _ LL3 fs3 (sureW w) (sureW_rd w).1 (sureW_rd w).2 (by decide) (by decide) (fun _ => ⟨by decide, fun i hi => by
    have : i = 0 ∨ i = 1 ∨ i = 2 := by unfold LL3 at hi; simp at hi; omega
    rcases this with rfl | rfl | rfl <;> decide⟩))
  have B0 := Lib.hid (sureW_below w)
  go_enter Tryd.func7, Tryd.ntmps7
  go_wp2_with (fail)
  refine HW.out.mono ?_
  rintro y w1 ⟨⟨v, L, e, rfl, his, hrd, _⟩, B1⟩
  obtain ⟨rfl, rfl⟩ := his.one is3
  have HR := Lib.hid hrd
  have B2 := Lib.hid (below_trans B0.out B1)
  have hb2 := Blk.new w1 3 #[.int .i64 2, .int .i64 3, .int .i64 3]
  have HR2 := Lib.hid (show RdI (w1.alloc (.cells #[.int .i64 2, .int .i64 3, .int .i64 3] 3)) (.slice (some ⟨w1.heap.size, 0, none⟩) 3 3) (w1.alloc (.cells #[.int .i64 2, .int .i64 3, .int .i64 3] 3)).heap.size [2, 3, 3] from .inr ⟨_, 0, 3, rfl, by simp, fun j hj => by
    have : j = 0 ∨ j = 1 ∨ j = 2 := by simp at hj; omega
    rcases this with rfl | rfl | rfl <;> (rw [hb2.cell]; rfl)⟩)
  have IW := Lib.hid (intsI_walk v _ [2, 3, 3] _ ((HR.out.alloc (Nat.le_refl _) _).wider (by simp)) HR2.out (by decide))
  have B3 := Lib.hid (below_al B2.out (.cells #[.int .i64 2, .int .i64 3, .int .i64 3] 3))
  clear HW hrd his B1 hb2
  rw [errI_zero]
  go_wp2_with (fail)
  refine IW.out.mono ?_
  rintro y w2 ⟨rfl, B4⟩
  have B5 := below_trans B3.out B4
  go_wp2
  go_ret
  exact ⟨rfl, B5⟩
end Go.Proofs.YtbnnbhblfclomaaDoor
