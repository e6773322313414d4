/- What the document's answer marks. -/
import Derived.Test.YtbnnbhblfclomaaDoorL9
namespace Go.Proofs.YtbnnbhblfclomaaDoor
open Go.RowKit
set_option linter.unusedSimpArgs false
set_option linter.unusedVariables false
/-- The cells of a way, behind growth. -/
theorem way_cells {w wr : World} {A : Option Addr} {E : Ways} {k a b : Nat} {cap : Nat} (h : Pairs w (.slice A E.length cap) (castE E)) (hb : Below w.heap.size w wr) (hk : E[k]? = some (a, b)) :
    ∃ ad, A = some ad ∧ wr.cell? (ad.add (k * 2)) = some (.int .i64 (a : Int)) ∧ wr.cell? ⟨(ad.add (k * 2)).block, (ad.add (k * 2)).off + 1, none⟩ = some (.int .i64 (b : Int)) ∧ ad.block < w.heap.size := by
  obtain ⟨A', cap', e0, _, hp⟩ := h
  simp only [Value.slice.injEq] at e0
  obtain ⟨rfl, _, rfl⟩ := e0
  have hlt := (List.getElem?_eq_some_iff.1 hk).1
  rw [castE_len] at hp
  obtain ⟨ad, rfl, hl, hc⟩ := hp (by omega)
  obtain ⟨y0, y1⟩ := hc k hlt
  rw [castE_get hk] at y0 y1
  have e1 : ∀ o p, (⟨(ad.add (k * 2)).block, o, p⟩ : Addr).block < w.heap.size := fun o p => by show (ad.add (k * 2)).block < w.heap.size; rw [add_block]; exact hl
  exact ⟨ad, rfl, (hb.cell (p := ad.add (k * 2)) (by rw [add_block]; exact hl)).trans y0, (hb.cell (e1 _ _)).trans y1, hl⟩
theorem make_bools (n : Nat) (hn : n ≤ 4096) (W : World) : (Instr.makeSlice 23 (.int .i64 (n : Int)) (.int .i64 (n : Int))).run Tryd.prog W = .ok (.slice (some ⟨W.heap.size, 0, none⟩) n n) (W.alloc (.cells (boolsA n (fun _ => false)) 4)) := by
  obtain ⟨j0, hj0, hy0, hy1, hy2⟩ := info_parts info4
  have h := run_make (P := Tryd.prog) W 23 4 j0 (.bool false) Tryd.underlying23 hj0 hy0 .i64 .i64 n n (by omega) (Int.le_refl _) (by rw [hy2]; omega) (by omega)
  rw [hy1] at h
  rw [← boolsA_made]
  simpa [Value.cells] using h
theorem relax_take (E : Ways) (f k a b : Nat) (t : Nat → Bool) (h : E[k]? = some (a, b)) : (E.take (k + 1)).foldl (relax1 f) t = relax1 f ((E.take k).foldl (relax1 f) t) (a, b) := by
  rw [List.take_add_one, h, List.foldl_append]; rfl
def relT (E : Ways) (f k : Nat) (t : Nat → Bool) : Nat → Bool := (E.take k).foldl (relax1 f) t
theorem relT_succ (E : Ways) (f k a b : Nat) (t : Nat → Bool) (h : E[k]? = some (a, b)) : relT E f (k + 1) t = relax1 f (relT E f k t) (a, b) := relax_take E f k a b t h
theorem relT_zero (E : Ways) (f : Nat) (t : Nat → Bool) : relT E f 0 t = t := rfl
theorem relT_all (E : Ways) (f k : Nat) (t : Nat → Bool) (h : E.length ≤ k) : relT E f k t = relax E f t := by unfold relT relax; rw [List.take_of_length_le h]
def LeadsSaid (E : Ways) (n f : Nat) (W : World) (x : Ending) (w' : World) : Prop := ∃ g, x = .returned (.slice (some ⟨g, 0, none⟩) n n) ∧ W.heap.size ≤ g ∧ Blk w' g 4 (boolsA n (rounds E f (n + 1))) ∧ Below W.heap.size W w'
set_option maxRecDepth 100000 in
set_option maxHeartbeats 1000000 in
theorem leads_walk (n f : Nat) (A : Option Addr) (cap : Nat) (E : Ways) (w : World) (hL : Pairs w (.slice A E.length cap) (castE E)) (hE : ∀ e, e ∈ E → e.1 < n ∧ e.2 < n) (hn : n ≤ 4096) (hm : E.length ≤ 1048576) :
    Calls Tryd.prog 37 #[.int .i64 n, .slice A E.length cap, .int .i64 f] w (LeadsSaid E n f w) := by
  have HM := make_bools n hn w
  have HL := Lib.hid hL
  have HE := Lib.hid hE
  have n0 : (0 : Int) ≤ (n : Int) := by omega
  have hb0 := Lib.hid (Blk.new w 4 (boolsA n (fun _ => false)))
  have B0 := below_al (Below.refl w.heap.size w) (.cells (boolsA n (fun _ => false)) 4)
  clear hL hE
  generalize hm' : E.length = m at *
  have HLEN := Lib.hid hm'
  clear hm'
  go_enter Tryd.func37, Tryd.ntmps37
  go_upto_region 3 with (fail)
  clear HM
  generalize hW : w.alloc (.cells (boolsA n (fun _ => false)) 4) = W0 at *
  clear hW
  go_loopw [8] (fun iv wr => ∃ k : Nat, iv = .int .i64 k ∧ k ≤ n + 1 ∧ Blk wr w.heap.size 4 (boolsA n (rounds E f k)) ∧ Below w.heap.size w wr) (fun iv _ => n + 1 - (intOf iv).toNat)
  case atStart => exact ⟨0, rfl, Nat.zero_le _, hb0.out, B0⟩
  case round =>
    clear B0 hb0
    obtain ⟨k, rfl, hk, hb, Br⟩ := hrel
    have HB := Lib.hid hb
    clear hb
    by_cases hkn : k ≤ n
    · have d0 : decide ((k : Int) ≤ (n : Int)) = true := decide_eq_true (by omega)
      go_upto_region 6 with (fail)
      obtain ⟨wo, rfl⟩ : ∃ wo : World, wo = wr := ⟨_, rfl⟩
      go_loopw [9] (fun iv wr => ∃ j : Nat, iv = .int .i64 j ∧ j ≤ m ∧ Blk wr w.heap.size 4 (boolsA n (relT E f j (rounds E f k))) ∧ Below w.heap.size w wr) (fun iv _ => m - (intOf iv).toNat)
      case atStart => exact ⟨0, rfl, Nat.zero_le _, by rw [relT_zero]; exact HB.out, Br⟩
      case round =>
        clear HB Br
        obtain ⟨j, rfl, hj, hb, Br⟩ := hrel
        by_cases hjm : j < m
        · have d1 : decide ((j : Int) < (m : Int)) = true := decide_eq_true (by omega)
          obtain ⟨⟨a, b⟩, hab⟩ : ∃ e, E[j]? = some e := ⟨_, List.getElem?_eq_getElem (by rw [HLEN.out]; omega)⟩
          have hab' := HE.out _ (List.mem_of_getElem? hab)
          have hl' := HL.out
          rw [← HLEN.out] at hl'
          obtain ⟨ad, rfl, c0, c1, hlt⟩ := way_cells hl' Br hab
          have HR := Lib.hid (relT_succ E f j a b (rounds E f k) hab)
          generalize relT E f j (rounds E f k) = t at *
          have c2 : wr.cell? ⟨w.heap.size, a, none⟩ = some (.bool (t a)) := by rw [hb.cell]; exact boolsA_get t hab'.1
          have c3 : wr.cell? ⟨w.heap.size, b, none⟩ = some (.bool (t b)) := by rw [hb.cell]; exact boolsA_get t hab'.2
          have f2 := hb.frozen b
          have zb := hb.lt
          have a0 : (0 : Int) ≤ (a : Int) := by omega
          have a1 : (a : Int) < (n : Int) := by have := hab'.1; omega
          have b0 : (0 : Int) ≤ (b : Int) := by omega
          have b1 : (b : Int) < (n : Int) := by have := hab'.2; omega
          have j0 : (0 : Int) ≤ (j : Int) := by omega
          have j1 : (j : Int) < (m : Int) := by omega
          have hput := Lib.hid (hb.put b (.bool true) (boolsA_set n b t))
          have Bp := below_put (p := ⟨w.heap.size, b, none⟩) Br (Nat.le_refl _) (.bool true)
          have HBB := Lib.hid hb
          clear hab hab' hl' hb
          by_cases haf : a = f
          · have d2 : ((a : Int) == (f : Int)) = true := by rw [haf]; simp
            have hr : relax1 f t (a, b) = updB t b := by unfold relax1; rw [if_pos (.inl haf)]
            have HR2 := Lib.hid hr
            clear hr haf
            go_wp2
            go_roundw
            case rel => exact ⟨j + 1, by go_num, by omega, by rw [HR.out, HR2.out]; exact hput.out, Bp⟩
            case measure => simp [intOf]; omega
          · have d2 : ((a : Int) == (f : Int)) = false := by rw [beq_eq_false_iff_ne]; omega
            cases hta : t a with
            | true =>
              rw [hta] at c2
              have hr : relax1 f t (a, b) = updB t b := by unfold relax1; rw [if_pos (.inr hta)]
              have HR2 := Lib.hid hr
              clear hr haf hta
              go_wp2
              go_roundw
              case rel => exact ⟨j + 1, by go_num, by omega, by rw [HR.out, HR2.out]; exact hput.out, Bp⟩
              case measure => simp [intOf]; omega
            | false =>
              rw [hta] at c2
              have hr : relax1 f t (a, b) = t := by unfold relax1; rw [if_neg (by rw [hta]; simp; exact haf)]
              have HR2 := Lib.hid hr
              clear hr haf hta
              go_wp2
              go_roundw
              case rel => exact ⟨j + 1, by go_num, by omega, by rw [HR.out, HR2.out]; exact HBB.out, Br⟩
              case measure => simp [intOf]; omega
        · have d1 : decide ((j : Int) < (m : Int)) = false := decide_eq_false (by omega)
          rw [relT_all E f j _ (by rw [HLEN.out]; omega)] at hb
          have HB := Lib.hid (show Blk wr w.heap.size 4 (boolsA n (rounds E f (k + 1))) from hb)
          clear hb
          go_wp2
          go_roundw
          case rel => exact ⟨k + 1, by go_num, by omega, HB.out, Br⟩
          case measure => simp [intOf]; omega
    · have d0 : decide ((k : Int) ≤ (n : Int)) = false := decide_eq_false (by omega)
      have hk' : k = n + 1 := by omega
      rw [hk'] at HB
      clear hk hk'
      go_wp2
      go_ret
      exact ⟨_, rfl, Nat.le_refl _, HB.out, Br⟩
end Go.Proofs.YtbnnbhblfclomaaDoor
