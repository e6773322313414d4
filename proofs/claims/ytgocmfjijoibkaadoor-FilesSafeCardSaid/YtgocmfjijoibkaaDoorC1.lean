/- A row of bytes copied. -/
import Derived.Test.YtgocmfjijoibkaaDoorD3
import Derived.Lib.SliceRun
import Derived.Lib.Walk
import Derived.Shelf.RegionOpenPlain
namespace Go.Proofs.YtgocmfjijoibkaaDoor
open Go.RowKit
set_option linter.unusedSimpArgs false
set_option linter.unusedVariables false
theorem info5 : (Tryd.prog.info? 5).map (fun i => (i.zero, i.size, i.bytes)) = some (some (.int .u8 0), 1, 1) := by kernel_rfl
theorem RdY.of_row {w : World} {B : Nat} {v : Value} {bs : List UInt8} (h : w.ownsRow B 5 1 v bs.length (bs.map fun b => Value.int .u8 (b.toNat : Int))) : RdY w v bs := by
  rcases h.2 with ⟨rfl, h0⟩ | ⟨g, cap, cur, rfl, hB, hb, h1, h2, h3, h4⟩
  · exact .inl ⟨none, 0, rfl, List.eq_nil_of_length_eq_zero h0, fun _ => rfl⟩
  · refine .inr ⟨g, 0, cap, cur, (0, 0), rfl, h1, hb, by omega, fun i hi => ?_⟩
    have e : cur.toList[i]? = (bs.map fun b => Value.int .u8 (b.toNat : Int))[i]? := by
      rw [← h4, List.getElem?_take, if_pos (by omega)]
    rw [Nat.zero_add, ← Array.getElem?_toList, e]
    simp [List.getElem?_eq_getElem, hi]
/-- The cells that a slice of bytes shows. -/
theorem RdY.cells {w : World} {g o n cap : Nat} {bs : List UInt8} (h : RdY w (.slice (some ⟨g, o, none⟩) n cap) bs) : n = bs.length ∧ ∀ j, j < bs.length → w.cell? ⟨g, o + j, none⟩ = some (.int .u8 ((bs.getD j 0).toNat : Int)) := by
  rcases h with ⟨A, c, e, rfl, _⟩ | ⟨g', o', c, cs, fr, e, h1, h2, h3, h4⟩
  · cases e; exact ⟨rfl, fun j hj => by simp at hj⟩
  · cases e
    refine ⟨rfl, fun j hj => ?_⟩
    have := h4 j hj
    simpa [World.cell?, h2] using this
theorem RdY.cellsA {w : World} {ad : Addr} {n cap : Nat} {bs : List UInt8} (h : RdY w (.slice (some ad) n cap) bs) : n = bs.length ∧ ∀ j, j < bs.length → w.cell? (ad.add j) = some (.int .u8 ((bs.getD j 0).toNat : Int)) := by
  rcases h with ⟨A, c, e, rfl, _⟩ | ⟨g', o', c, cs, fr, e, h1, h2, h3, h4⟩
  · cases e; exact ⟨rfl, fun j hj => by simp at hj⟩
  · cases e
    refine ⟨rfl, fun j hj => ?_⟩
    rw [show ((⟨g', o', none⟩ : Addr).add j) = ⟨g', o' + j, none⟩ from by unfold Addr.add; split <;> simp_all]
    have := h4 j hj
    simpa [World.cell?, h2] using this
set_option maxHeartbeats 2000000 in
set_option maxRecDepth 100000 in
theorem clone19_walk (v : Value) (bs : List UInt8) (w : World) (h : RdY w v bs) (hl : bs.length ≤ 1000000) : Calls Tryd.prog 26 #[v] w fun e w' => ∃ v', e = .returned v' ∧ RdY w' v' bs ∧ Below w.heap.size w w' := by
  obtain ⟨A, cap, rfl⟩ := h.form
  obtain ⟨i0, hi, hz0, hz1, hz2⟩ := info_parts info5
  have q35 : ∀ (w : World) (a : Option Addr) (n c n' c' : Nat), (binOp .eql 29 (.slice a n c) (.slice none n' c')).run Tryd.prog w = .ok (.bool a.isNone) w := fun w a n c n' c' => Lib.run_eql_slice_nil w _ _ a n c n' c' Tryd.underlying29
  cases A with
  | none =>
    have hb : bs = [] := by
      rcases h with ⟨A, c, e, rfl, _⟩ | ⟨g', o', c, cs, fr, e, h1, h2, h3, h4⟩
      · rfl
      · cases e
    subst hb
    clear h
    go_enter Tryd.func26, Tryd.ntmps26
    go_wp2
    go_ret
    exact ⟨_, rfl, RdY.nil w, Below.refl _ _⟩
  | some ad =>
    have hC := Lib.hid h.cellsA.2
    clear h
    go_enter Tryd.func26, Tryd.ntmps26
    go_wp2_with (at_builtin; refine wpList_append_own _ rfl _ _ 29 rfl w.heap.size 5 i0 (.int .u8 0) 1 1 Tryd.underlying29 hi hz0 hz1 hz2 rfl (by decide) _ _ _ rfl (World.ownsRow_made w #[] 0 (Nat.le_refl _) (Nat.zero_le _) rfl) ad bs.length cap (bs.map fun b => Value.int .u8 (b.toNat : Int)) rfl ?qc1 ?qc2 ?qc3 ?qc4 ?qc5 ?qc6 ?_)
    case qc1 => simp
    case qc2 =>
      intro j u hj
      have hjn : j < bs.length := by
        have := (List.getElem?_eq_some_iff.1 hj).1
        simpa using this
      refine Lib.cell?_alloc_some _ ?_
      rw [hC.out j hjn, ← hj]
      simp [List.getElem?_eq_getElem, hjn]
    case qc3 => intro u hu; obtain ⟨x, _, rfl⟩ := List.mem_map.1 hu; rfl
    case qc4 => unfold maxLen; omega
    case qc5 => omega
    case qc6 => simp
    intro v' w1 hown hgrow hnil
    go_wp2
    go_ret
    refine ⟨v', rfl, RdY.of_row (B := w.heap.size) (by simpa using hown), ?_⟩
    exact ((Below.refl _ w).alloc (Nat.le_refl _) _).grown hgrow (by simp) (by intro k hk; simp [Value.ownBlock] at hk; omega)
end Go.Proofs.YtgocmfjijoibkaaDoor
