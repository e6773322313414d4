/- huge, sure, walked. -/
import Derived.Test.YtacajmknlknjkaaDoorC2
namespace Go.Proofs.YtacajmknlknjkaaDoor
open Go.RowKit
set_option linter.unusedVariables false
def sumH (L : List Mc) : Nat := (L.map fun e => min e.n.size 10000 + min e.v.size 10000).sum
theorem sumH_snoc (L : List Mc) (e : Mc) : sumH (L ++ [e]) = sumH L + min e.n.size 10000 + min e.v.size 10000 := by simp [sumH]; omega
theorem sumH_at {L : List Mc} {e : Mc} (h : e ∈ L) : min e.n.size 10000 + min e.v.size 10000 ≤ sumH L := by
  induction L with
  | nil => cases h
  | cons a r ih =>
    have h1 : sumH (a :: r) = min a.n.size 10000 + min a.v.size 10000 + sumH r := by simp [sumH]
    rcases List.mem_cons.1 h with rfl | h
    · omega
    · have := ih h; omega
theorem sumH_le (L : List Mc) : sumH L ≤ 20000 * L.length := by
  induction L with
  | nil => simp [sumH]
  | cons a r ih =>
    have h1 : sumH (a :: r) = min a.n.size 10000 + min a.v.size 10000 + sumH r := by simp [sumH]
    rw [h1, List.length_cons]; omega
/-- Small enough to be gone over. -/
def Small (L : List Mc) : Prop := L.length ≤ 60 ∧ ∀ e ∈ L, e.n.size ≤ 8000 ∧ e.v.size ≤ 8000
def HugeSaid (L : List Mc) (w : World) (y : Ending) (w' : World) : Prop := (∃ b : Bool, y = .returned (.bool b) ∧ (b = false → Small L)) ∧ Below w.heap.size w w'
set_option maxRecDepth 100000 in
set_option maxHeartbeats 2000000 in
theorem huge_walk (v : Value) (L : List Mc) (hl : L.length ≤ 9223372036854775807) (w : World) (h : RdM w v w.heap.size L) :
    Calls Tryd.prog 8 #[v] w (HugeSaid L w) := by
  obtain ⟨A, cap, rfl⟩ := h.form
  have HI := Lib.hid h
  clear h
  go_enter Tryd.func8, Tryd.ntmps8
  go_upto_region 3 with (fail)
  go_loopw [3, 4] (fun nv iv wr => ∃ i n : Nat, nv = .int .i64 n ∧ iv = .int .i64 i ∧ i ≤ L.length ∧ i ≤ 100 ∧ n = sumH (L.take i) ∧ Below w.heap.size w wr) (fun _ iv _ => L.length - (intOf iv).toNat)
  case atStart => exact ⟨0, 0, rfl, rfl, Nat.zero_le _, by omega, rfl, Below.refl _ _⟩
  case round =>
    obtain ⟨i, n, rfl, rfl, hi, hi2, hn, bel⟩ := hrel
    have i0 : (0 : Int) ≤ i := by omega
    have hnb : n ≤ 2000000 := by have := sumH_le (L.take i); rw [List.length_take] at this; omega
    have HN := Lib.hid hn
    have BEL := Lib.hid bel
    clear hn bel
    by_cases hgo : i < L.length ∧ i < 100
    · obtain ⟨hlt, h100⟩ := hgo
      have hlt' : (i : Int) < (L.length : Int) := by omega
      have h100' : (i : Int) < 100 := by omega
      rcases HI.out with ⟨_, _, _, _, hl0⟩ | ⟨g, o, cp, e, hg, hh⟩
      · rw [hl0] at hlt; simp at hlt
      cases e
      obtain ⟨c0, c1⟩ := (hh i hlt).below BEL.out hg
      have z0 := World.block_lt_of_cell? _ _ c0
      have z1 := World.block_lt_of_cell? _ _ c1
      have HS := Lib.hid (show sumH (L.take (i + 1)) = n + min (L.getD i mc0).n.size 10000 + min (L.getD i mc0).v.size 10000 by rw [takeM_succ hlt, sumH_snoc, ← HN.out])
      generalize L.getD i mc0 = E at *
      clear hh
      obtain ⟨p, hp⟩ : ∃ p : Nat, min E.n.size 10000 = p := ⟨_, rfl⟩
      obtain ⟨q, hq⟩ : ∃ q : Nat, min E.v.size 10000 = q := ⟨_, rfl⟩
      have hmp : min (E.n.size : Int) 10000 = (p : Int) := by omega
      have hmq : min (E.v.size : Int) 10000 = (q : Int) := by omega
      rw [hp, hq] at HS
      have hpb : p ≤ 10000 := by omega
      have hqb : q ≤ 10000 := by omega
      clear hp hq
      have hw1 : IntKind.i64.wrap ((n : Int) + (p : Int)) = (n : Int) + (p : Int) := by rw [IntKind.wrap_i64]; omega
      have hw2 : IntKind.i64.wrap ((n : Int) + (p : Int) + (q : Int)) = (n : Int) + (p : Int) + (q : Int) := by rw [IntKind.wrap_i64]; omega
      go_upto_region 5 with (fail)
      go_quiet (fail)
      have B2 := Lib.hid (below_drewN BEL.out nq)
      clear BEL c0 c1 z0 z1
      go_wp2_with (fail)
      go_roundw
      case rel => exact ⟨i + 1, n + p + q, by go_num, by go_num, by omega, by omega, HS.out.symm, B2.out⟩
      case measure => simp [intOf]; omega
    · have hend : i = L.length ∨ i = 100 := by omega
      have hsm : L.length ≤ 60 → n ≤ 8000 → Small L := fun h1 h2 => ⟨h1, fun e he => by
        have h3 := HN.out
        rw [List.take_of_length_le (by omega)] at h3
        have := sumH_at he; omega⟩
      have HSM := Lib.hid hsm
      clear hsm
      have fin : ∀ (c1 c2 : Bool), decide ((i : Int) < (L.length : Int)) = c1 → decide ((i : Int) < 100) = c2 → (c1 = true → c2 = false) → True := fun _ _ _ _ _ => trivial
      clear fin
      by_cases h60 : 60 < L.length
      · have h60' : (60 : Int) < (L.length : Int) := by omega
        by_cases hlt : i < L.length
        · have hlt' : (i : Int) < (L.length : Int) := by omega
          have h100' : ¬ (i : Int) < 100 := by omega
          go_wp2_with (fail)
          go_ret
          exact ⟨⟨true, rfl, fun h => by cases h⟩, BEL.out⟩
        · have hlt' : ¬ (i : Int) < (L.length : Int) := by omega
          go_wp2_with (fail)
          go_ret
          exact ⟨⟨true, rfl, fun h => by cases h⟩, BEL.out⟩
      · have h60' : ¬ (60 : Int) < (L.length : Int) := by omega
        have hlt' : ¬ (i : Int) < (L.length : Int) := by omega
        by_cases h8 : 8000 < n
        · have h8' : (8000 : Int) < (n : Int) := by omega
          go_wp2_with (fail)
          go_ret
          exact ⟨⟨true, rfl, fun h => by cases h⟩, BEL.out⟩
        · have h8' : ¬ (8000 : Int) < (n : Int) := by omega
          go_wp2_with (fail)
          go_ret
          exact ⟨⟨false, rfl, fun _ => HSM.out (by omega) (by omega)⟩, BEL.out⟩
theorem num_errE (e : Int) (w : World) (hg : ErrType w) : Calls Tryd.prog 13 #[errE e] w fun y w' => y = .returned (.int .i64 e) ∧ Below w.heap.size w w' := by
  unfold errE
  by_cases h : e = 0
  · rw [if_pos h, h]; exact num_nil w
  · rw [if_neg h]; exact num_hit e w hg
/-- What internal/bytealg.MaxLen's cell holds: some number. -/
def MaxL (w : World) : Prop := ∃ m, w.cell? ⟨1, 0, none⟩ = some (.int .i64 m)
theorem MaxL.below {w w1 : World} (h : MaxL w) (hb : Below w.heap.size w w1) : MaxL w1 := by
  obtain ⟨m, h⟩ := h; exact ⟨m, bel_cell hb h⟩
def sureL : List Mc := [⟨⟨#[72]⟩, ⟨#[97]⟩⟩, ⟨⟨#[83]⟩, ⟨#[117, 112]⟩⟩]
set_option maxRecDepth 100000 in
set_option maxHeartbeats 1000000 in
theorem sure_walk (w : World) (hm : MaxL w) : Calls Tryd.prog 9 #[] w fun y w' => y = .returned (.bool true) ∧ Below w.heap.size w w' := by
  have B1 := below_al (Below.refl w.heap.size w) (.cells #[.string ⟨#[72]⟩, .string ⟨#[97]⟩, .string ⟨#[83]⟩, .string ⟨#[117, 112]⟩] 37)
  have hB := Blk.new w 37 #[.string ⟨#[72]⟩, .string ⟨#[97]⟩, .string ⟨#[83]⟩, .string ⟨#[117, 112]⟩]
  obtain ⟨m, hm1⟩ := hm.below B1
  have HR : RdM (w.alloc (.cells #[.string ⟨#[72]⟩, .string ⟨#[97]⟩, .string ⟨#[83]⟩, .string ⟨#[117, 112]⟩] 37)) (.slice (some ⟨w.heap.size, 0, none⟩) 2 2) (w.alloc (.cells #[.string ⟨#[72]⟩, .string ⟨#[97]⟩, .string ⟨#[83]⟩, .string ⟨#[117, 112]⟩] 37)).heap.size sureL :=
    .inr ⟨_, 0, 2, rfl, hB.lt, fun i hi => by
      rcases (show i = 0 ∨ i = 1 by simp [sureL] at hi; omega) with rfl | rfl
      · exact ⟨by rw [hB.cell]; rfl, by rw [hB.cell]; rfl⟩
      · exact ⟨by rw [hB.cell]; rfl, by rw [hB.cell]; rfl⟩⟩
  have EX := Lib.hid (expand_walk ⟨#[36, 72, 36, 32, 105, 115, 32, 36, 83, 36, 58, 32, 36, 36, 53]⟩ _ sureL _ m hm1 HR (by decide) (by decide))
  have BH := Lib.hid B1
  clear B1 hB hm hm1 HR
  go_enter Tryd.func9, Tryd.ntmps9
  go_wp2_with (fail)
  refine EX.out.mono ?_
  rintro y w1 ⟨⟨z, rfl, hz⟩, B2⟩
  have B3 := Lib.hid (below_trans BH.out B2)
  have he : errE (expE sureL (⟨#[36, 72, 36, 32, 105, 115, 32, 36, 83, 36, 58, 32, 36, 36, 53]⟩ : ByteArray).data.toList) = .nilIface := by
    rw [show expE sureL (⟨#[36, 72, 36, 32, 105, 115, 32, 36, 83, 36, 58, 32, 36, 36, 53]⟩ : ByteArray).data.toList = 0 by decide]; rfl
  obtain rfl : z = ⟨#[97, 32, 105, 115, 32, 117, 112, 58, 32, 36, 53]⟩ := by
    obtain ⟨⟨l⟩⟩ := z
    have h2 : expO sureL (⟨#[36, 72, 36, 32, 105, 115, 32, 36, 83, 36, 58, 32, 36, 36, 53]⟩ : ByteArray).data.toList = [97, 32, 105, 115, 32, 117, 112, 58, 32, 36, 53] := by decide
    rw [h2] at hz
    simp at hz
    rw [hz]
  rw [he]
  clear EX BH B2 hz he
  go_wp2_with (fail)
  go_ret
  exact ⟨rfl, B3.out⟩
end Go.Proofs.YtacajmknlknjkaaDoor
