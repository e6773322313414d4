/- What stands for a name, walked. -/
import Derived.Test.YtacajmknlknjkaaDoorA2
namespace Go.Proofs.YtacajmknlknjkaaDoor
open Go.RowKit
set_option linter.unusedVariables false
def IdxSaid (L : List Mc) (x : ByteArray) (r : Int) : Prop :=
  (r = -1 ∧ ∀ j, j < L.length → ((L.getD j mc0).n.toList == x.toList) = false) ∨ ∃ i : Nat, i < L.length ∧ r = i ∧ ((L.getD i mc0).n.toList == x.toList) = true ∧ ∀ j, j < i → ((L.getD j mc0).n.toList == x.toList) = false
set_option maxRecDepth 100000 in
set_option maxHeartbeats 1000000 in
theorem index_walk (x : ByteArray) (g : Nat) (v : Value) (L : List Mc) (w : World) (hL : RdM w v w.heap.size L) (hl : L.length ≤ 9223372036854775807) (hg : w.cell? ⟨g, 0, none⟩ = some (.string x)) :
    Calls Tryd.prog 28 #[v, .func (.func 29) #[] #[.pointer (some ⟨g, 0, none⟩)]] w fun y w' => (∃ r : Int, y = .returned (.int .i64 r) ∧ IdxSaid L x r) ∧ Below w.heap.size w w' := by
  obtain ⟨A, cap, rfl⟩ := hL.form
  have HI := Lib.hid hL
  have HG := Lib.hid hg
  clear hL hg
  go_enter Tryd.func28, Tryd.ntmps28
  go_upto_region 2 with (fail)
  go_loopw [8] (fun iv wr => ∃ k : Nat, iv = .int .i64 k ∧ k ≤ L.length ∧ (∀ j, j < k → ((L.getD j mc0).n.toList == x.toList) = false) ∧ Below w.heap.size w wr) (fun iv _ => L.length - (intOf iv).toNat)
  case atStart => exact ⟨0, rfl, Nat.zero_le _, fun j hj => by omega, Below.refl _ _⟩
  case round =>
    obtain ⟨k, rfl, hk, hno, B⟩ := hrel
    have HN := Lib.hid hno
    have i0 : (0 : Int) ≤ k := by omega
    clear hno
    by_cases hlt : k < L.length
    · have hlt' : (k : Int) < (L.length : Int) := by omega
      rcases HI.out with ⟨_, _, _, _, hl0⟩ | ⟨g2, o, cp, e, hg2, hh⟩
      · rw [hl0] at hlt; simp at hlt
      cases e
      obtain ⟨c0, c1⟩ := (hh k hlt).below B hg2
      have z0 := World.block_lt_of_cell? _ _ c0
      have xg := bel_cell B HG.out
      have HK : ∃ E, L.getD k mc0 = E := ⟨_, rfl⟩
      obtain ⟨E, hE⟩ := HK
      rw [hE] at c0 c1
      have HE := Lib.hid hE
      have AW := Lib.hid (fun W h1 => same_walk E x g W h1)
      have BH := Lib.hid B
      clear hh hE B
      go_wp2_with (fail)
      refine (AW.out _ xg).mono ?_
      rintro y w2 ⟨rfl, B2⟩
      have B3 := Lib.hid (below_trans BH.out B2)
      clear BH B2 c0 c1 z0 xg
      cases hr : (E.n.toList == x.toList) with
      | true =>
        have HR := Lib.hid hr
        clear hr
        go_wp2_with (fail)
        go_ret
        exact ⟨⟨_, rfl, .inr ⟨k, hlt, rfl, by rw [HE.out]; exact HR.out, HN.out⟩⟩, B3.out⟩
      | false =>
        have HR := Lib.hid hr
        clear hr
        go_wp2_with (fail)
        go_roundw
        case rel =>
          refine ⟨k + 1, by go_num, by omega, fun j hj => ?_, B3.out⟩
          by_cases hjk : j = k
          · subst hjk; rw [HE.out]; exact HR.out
          · exact HN.out j (by omega)
        case measure => simp [intOf]; omega
    · obtain rfl : k = L.length := by omega
      have BH := Lib.hid B
      clear B
      go_wp2_with (fail)
      go_ret
      exact ⟨⟨_, rfl, .inl ⟨rfl, HN.out⟩⟩, BH.out⟩
theorem idx_val {L : List Mc} {x : ByteArray} {r : Int} (h : IdxSaid L x r) (hx : x.data.toList ≠ []) :
    (r = -1 ∧ valB L x.data.toList = []) ∨ ∃ i : Nat, i < L.length ∧ r = i ∧ valB L x.data.toList = (L.getD i mc0).v.data.toList := by
  have hb : ∀ a b : ByteArray, (a.toList == b.toList) = (a.data.toList == b.data.toList) := fun a b => by rw [Lib.toList_data, Lib.toList_data]
  rcases h with ⟨rfl, h⟩ | ⟨i, hi, rfl, h1, h2⟩
  · refine .inl ⟨rfl, ?_⟩
    unfold valB
    rw [if_neg hx, List.find?_eq_none.2 fun e he => ?_]
    obtain ⟨j, hj, rfl⟩ := List.getElem_of_mem he
    have := h j hj
    rw [List.getD_eq_getElem?_getD, List.getElem?_eq_getElem hj, hb] at this
    simpa using this
  · refine .inr ⟨i, hi, rfl, ?_⟩
    unfold valB
    rw [if_neg hx]
    have : L.find? (fun m => m.n.data.toList == x.data.toList) = some (L.getD i mc0) := by
      rw [List.find?_eq_some_iff_getElem]
      refine ⟨by rw [← hb]; exact h1, i, hi, by rw [List.getD_eq_getElem?_getD, List.getElem?_eq_getElem hi]; rfl, fun j hj => ?_⟩
      have := h2 j hj
      rw [List.getD_eq_getElem?_getD, List.getElem?_eq_getElem (by omega), hb] at this
      simpa using this
    rw [this]
set_option maxRecDepth 100000 in
set_option maxHeartbeats 1000000 in
theorem value_walk (x : ByteArray) (v : Value) (L : List Mc) (w : World) (hL : RdM w v w.heap.size L) (hl : L.length ≤ 9223372036854775807) :
    Calls Tryd.prog 20 #[.string x, v] w fun y w' => (∃ z : ByteArray, y = .returned (.string z) ∧ z.data.toList = valB L x.data.toList) ∧ Below w.heap.size w w' := by
  obtain ⟨A, cap, rfl⟩ := hL.form
  have B1 := below_al (Below.refl w.heap.size w) (.cells #[.string x] 9)
  have HI := Lib.hid ((hL.below B1 (Nat.le_refl _)).wider (show w.heap.size ≤ (w.alloc (.cells #[.string x] 9)).heap.size by simp))
  have IX := Lib.hid (index_walk x w.heap.size _ L (w.alloc (.cells #[.string x] 9)) HI.out hl (by simp))
  have BH := Lib.hid B1
  clear hL B1
  by_cases hx : x.data.toList = []
  · obtain rfl : x = ⟨#[]⟩ := by
      obtain ⟨⟨l⟩⟩ := x; simp at hx; subst hx; rfl
    clear IX HI hx
    go_enter Tryd.func20, Tryd.ntmps20
    go_wp2_with (fail)
    go_ret
    exact ⟨⟨_, rfl, rfl⟩, BH.out⟩
  · have hx2 : x.toList.isEmpty = false := by rw [Lib.toList_data]; simpa using hx
    have HX := Lib.hid hx
    clear hx
    go_enter Tryd.func20, Tryd.ntmps20
    go_upto_region 1 with (fail)
    go_wp2_with (fail)
    refine IX.out.mono ?_
    rintro y w2 ⟨⟨r, rfl, hr⟩, B2⟩
    have B3 := Lib.hid (below_trans BH.out B2)
    have HI2 := Lib.hid (HI.out.below B2 (Nat.le_refl _))
    clear IX BH B2 HI
    rcases idx_val hr HX.out with ⟨rfl, hv⟩ | ⟨i, hi, rfl, hv⟩
    · have HV := Lib.hid hv
      clear hv hr
      go_wp2_with (fail)
      go_ret
      exact ⟨⟨_, rfl, by rw [HV.out]⟩, B3.out⟩
    · have HV := Lib.hid hv
      have i0 : (0 : Int) ≤ i := by omega
      have hlt' : (i : Int) < (L.length : Int) := by omega
      rcases HI2.out with ⟨_, _, _, _, hl0⟩ | ⟨g2, o, cp, e, hg2, hh⟩
      · rw [hl0] at hi; simp at hi
      cases e
      obtain ⟨_, c1⟩ := hh i hi
      have z0 := World.block_lt_of_cell? _ _ c1
      generalize L.getD i mc0 = E at *
      clear hv hr hh
      go_wp2_with (fail)
      go_ret
      exact ⟨⟨_, rfl, HV.out.symm⟩, B3.out⟩
end Go.Proofs.YtacajmknlknjkaaDoor
