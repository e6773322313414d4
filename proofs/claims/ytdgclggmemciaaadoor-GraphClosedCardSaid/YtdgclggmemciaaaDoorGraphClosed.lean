/- For every number of places, all ways and every pair of numbers, the law GraphClosed answers true: a way from a place to one that leads to it makes a loop; one to a place behind it in the order makes none. Condition: errors.errorType reads as the program's text lays it (the card ties it). -/
import Derived.Test.YtdgclggmemciaaaDoorLaid
import Derived.Test.YtdgclggmemciaaaDoorCards
import Derived.Test.YtdgclggmemciaaaDoorTie
import Derived.SevenTiedAt
import Derived.ProofKit
import Derived.OpenShut
import Derived.ShutString
import Derived.ChangeOld
import Derived.SizedLaws
import Derived.Lib.SmallJoins
import Derived.Test.YtdgclggmemciaaaDoorX7
import Derived.Test.YtdgclggmemciaaaDoorFlat
namespace Go.Proofs.YtdgclggmemciaaaDoor
section
open Go.ChangeShapes Go.WideShapes Go.ChangeAt Go.RowKit Go.Joins
set_option maxRecDepth 100000 in
theorem pairs_of {H : Type} {enc : TypeId × Value → H} {W : World} {a : Option Addr} {len cap : Nat} {d : DataW H} {p : List MemPlace}
    (h : DataW.Trod enc Tryd.prog W 0 (fun _ => true) true 22 (.slice a len cap) d p) : ∃ L : List (Int × Int), L.length = len ∧ Pairs W (.slice a len cap) L ∧ (a = none → cap = 0) := by
  obtain ⟨fuel, hf⟩ := h
  have c40 : Tryd.prog.cellsOf 40 = 2 := by kernel_rfl
  have c3 : Tryd.prog.cellsOf 3 = 1 := by kernel_rfl
  rcases DataW.trod_slice Tryd.underlying22 hf with ⟨hcs, _⟩ | ⟨x, l, c, elems, rest, n, rfl, hcs, hx, hb, hl, hm, he, hel, _⟩
  · simp [Value.cells] at hcs
    obtain ⟨rfl, rfl, rfl⟩ := hcs
    exact ⟨[], rfl, ⟨none, 0, rfl, by decide, fun h => by simp at h⟩, fun _ => rfl⟩
  · simp [Value.cells] at hcs
    obtain ⟨rfl, rfl, rfl⟩ := hcs
    unfold maxLen at hm
    have key : ∀ j, j < len → ∃ u v : Int, W.cell? (x.add (j * 2)) = some (.int .i64 u) ∧ W.cell? ⟨(x.add (j * 2)).block, (x.add (j * 2)).off + 1, none⟩ = some (.int .i64 v) := by
      intro j hj
      have hj' : j < elems.length := by omega
      have h1 := hel j hj
      rw [c40, List.getElem?_eq_getElem hj', Option.bind_eq_some_iff] at h1
      obtain ⟨cs, h2, h3⟩ := h1
      obtain ⟨_, hlen, hcell⟩ := World.cells?_some h2
      obtain ⟨ys, m, rfl, _, _, _, hy⟩ := DataW.trod_array Tryd.underlying40 h3
      have e0 := hcell 0 (by omega)
      have e1 := hcell 1 (by omega)
      match cs, hlen with
      | [u, v], _ =>
        have y0 := hy 0 (by omega)
        have y1 := hy 1 (by omega)
        simp only [c3] at y0 y1
        have hys : ys.length = 2 := by assumption
        rw [List.getElem?_eq_getElem (by omega)] at y0 y1
        obtain ⟨u', eu, _⟩ := DataW.trod_int Tryd.underlying3 y0
        obtain ⟨v', ev, _⟩ := DataW.trod_int Tryd.underlying3 y1
        simp at eu ev
        subst eu ev
        have a0 : (x.add (j * 2)).add 0 = x.add (j * 2) := by unfold Addr.add; simp
        have a1 : (x.add (j * 2)).add 1 = ⟨(x.add (j * 2)).block, (x.add (j * 2)).off + 1, none⟩ := by rw [Addr.add, if_neg (by decide)]
        rw [a0] at e0
        rw [a1] at e1
        exact ⟨u', v', e0, e1⟩
    classical
    refine ⟨(List.range len).map (fun j => if hj : j < len then ((key j hj).choose, (key j hj).choose_spec.choose) else (0, 0)), by simp, ⟨_, cap, by simp, by simp; omega, fun h0 => ⟨x, rfl, ?_, fun j hj => ?_⟩⟩, fun h => by cases h⟩
    · have h0' : 0 < len := by simpa using h0
      obtain ⟨u, v, h1, _⟩ := key 0 h0'
      have := World.block_lt_of_cell? W _ h1
      simpa [add_block] using this
    · have hj' : j < len := by simpa using hj
      have e : ((List.range len).map (fun j => if hj : j < len then ((key j hj).choose, (key j hj).choose_spec.choose) else ((0 : Int), (0 : Int)))).getD j (0, 0) = ((key j hj').choose, (key j hj').choose_spec.choose) := by
        rw [List.getD_eq_getElem?_getD, List.getElem?_map, List.getElem?_range hj']
        simp [hj']
      rw [e]
      exact (key j hj').choose_spec.choose_spec
end
section
open Go.ChangeShapes Go.WideShapes Go.ChangeAt Go.RowKit Go.Joins
set_option linter.unusedVariables false

set_option maxRecDepth 100000 in
theorem graphClosed_lifted (os : Os) (started : os.Started) (H : Type) (enc : TypeId × Value → H) :
    ReturnsInHanded {} Tryd.checked os 6 .any (fun w args => (Rows.graphClosedSpec.pre enc Tryd.prog Tryd.f6 [] false w args ∧ laidMetH Tryd.prog laidL w) ∧ sizedMet enc Tryd.prog Tryd.f6 (OpenSpec.ofChange Rows.graphClosedSpec) false w args)
      (Rows.graphClosedSpec.post enc Tryd.prog Tryd.f6 false true false false) := by
  refine returnsInHanded_of_change_and (C := Tryd.checked) (X := fun w _ => laidMetH Tryd.prog laidL w) (fun _ _ _ hh h => h.of_heap hh) Tryd.own started (by kernel_rfl) Tryd.func6
    (ChangeSpec.witness_at (enc := enc) (C := Tryd.checked) (os := os) (X := fun w _ => laidMetH Tryd.prog laidL w) false (laidWorld os) #[.int .i64 0, .slice none 0 0, .agg #[.int .i64 0, .int .i64 0]] 8 rfl (by kernel_rfl) (by kernel_rfl) (by kernel_rfl) (by kernel_rfl) (by kernel_rfl) (laidWorld_met os _)) ?_
  intro W base args ds gs before hval0 hW _ _ hL hsz0
  have hval : ∀ (j : Nat) t v, Tryd.f6.params[j]? = some t → args[j]? = some v → Value.okWide Tryd.prog W .any base t v := hval0
  have hW' := hW
  obtain ⟨p, q, hA0, hV0, rfl, hfz, hnd⟩ := hW
  have hA : DataW.TrodAll enc Tryd.prog W 0 (fun _ => true) true Tryd.f6.params.toList args.toList ds p := hA0
  have hV : DataW.TrodVars enc Tryd.prog W (fun _ => true) [] gs q := hV0
  rw [Tryd.params6] at hA hval
  obtain ⟨v0, vs0, d0, ds0, p0, q0, hargs0, rfl, rfl, h0, r0⟩ := trodAll_cons hA
  obtain ⟨v1, vs1, d1, ds1, p1, q1, hargs1, rfl, rfl, h1, r1⟩ := trodAll_cons r0
  obtain ⟨v2, vs2, d2, ds2, p2, q2, hargs2, rfl, rfl, h2, r2⟩ := trodAll_cons r1
  obtain ⟨rfl, rfl, rfl⟩ := trodAll_nil r2
  obtain rfl : args = #[v0, v1, v2] := by cases args; simp_all
  have hg := handle_of_laid hL
  obtain ⟨rfl, rfl⟩ : gs = [] ∧ q = [] := by
    cases gs with
    | nil => exact ⟨rfl, hV⟩
    | cons g r => exact absurd hV (by intro h; cases h)
  obtain ⟨a0, rfl, rfl, rfl, w0⟩ := open_int Tryd.underlying3 (hval 0 3 v0 rfl rfl) h0
  obtain ⟨b0, c0⟩ := wf_i64 w0
  have k1 := h1
  have lt1 : ∀ x ∈ p1, x.block < W.heap.size := by obtain ⟨m, hm⟩ := k1; exact DataW.trod_lt m _ _ _ hm
  obtain ⟨a1, len1, cap1, rfl⟩ := okWide_slice Tryd.underlying22 (hval 1 22 v1 rfl rfl)
  obtain ⟨L1, l1, i1, n1⟩ := pairs_of h1
  have k2 := h2
  have lt2 : ∀ x ∈ p2, x.block < W.heap.size := by obtain ⟨m, hm⟩ := k2; exact DataW.trod_lt m _ _ _ hm
  obtain ⟨cs2, n2, rfl, sz2, F2⟩ := flat_array Tryd.underlying40 (hval 2 40 v2 rfl rfl) h2
  replace F2 : ∀ j, j < 2 → ∃ y, DataW.trod enc Tryd.prog W 0 (fun _ => true) true n2 3 ((cs2.toList.drop j).take 1) = some y := by
    intro j hj
    have h := F2 j hj
    rw [show Tryd.prog.cellsOf 3 = 1 from by kernel_rfl, Nat.mul_one] at h
    exact h
  obtain ⟨a2_0, e2_0, w2_0⟩ := one_int Tryd.underlying3 rfl (F2 0 (by decide))
  obtain ⟨b2_0, c2_0⟩ := wf_i64 w2_0
  obtain ⟨a2_1, e2_1, w2_1⟩ := one_int Tryd.underlying3 rfl (F2 1 (by decide))
  obtain ⟨b2_1, c2_1⟩ := wf_i64 w2_1
  obtain rfl : cs2 = #[.int .i64 a2_0, .int .i64 a2_1] := arr_of (l := [.int .i64 a2_0, .int .i64 a2_1]) (n := 2) (sz2.trans (by kernel_rfl)) rfl (by
    intro i hi
    rcases (by omega : i = 0 ∨ i = 1) with rfl | rfl
    · exact e2_0
    · exact e2_1)
  clear hA0 hval0 hsz0
  refine (closed_walk a0 a2_0 a2_1 a1 len1 cap1 L1 W l1 i1 n1 hg).mono fun e W' ⟨he, bel⟩ => ?_
  subst he
  exact ⟨_, rfl, _, _, _, [], _, [], hW', trodAll_mk1 (shut_bool Tryd.underlying4 _), (trodAll_cons_mk (shut_int Tryd.underlying3 w0) (trodAll_cons_mk (Below.trod laidOut (by kernel_rfl) (of_decide_eq_true (by kernel_rfl)) k1 bel lt1) (trodAll_cons_mk (Below.trod laidOut (by kernel_rfl) (of_decide_eq_true (by kernel_rfl)) k2 bel lt2) trodAll_mk0))), rfl, bel.frame _, fun h => by cases h⟩
theorem graphClosed_row : Rows.GraphClosedSaid :=
  OpenClaim.holds_of_wide 6 Tryd.f6 rfl rfl rfl rfl rfl rfl rfl ⟨rfl, rfl, rfl, rfl, rfl⟩ rfl rfl rfl rfl rfl (by kernel_rfl) Tryd.func6 (by kernel_rfl)
    (of_decide_eq_true (by kernel_rfl)) (by unfold Func.isWrapper; first | (rw [if_pos (by decide +kernel)]; kernel_rfl) | (rw [if_neg (by decide +kernel)]; exact ⟨rfl, rfl⟩))
    (fun os started H enc _ => graphClosed_lifted os started H enc)
set_option maxRecDepth 100000 in
theorem graphClosed_holds : Rows.GraphClosedCardSaid :=
  Claim7.holds_tied_plain_at .later [] [.handle] true _ true
    graphClosed_row (fun _ h => by cases h) (by kernel_rfl) (fun _ h => by cases h) graphClosed_row_tie rfl ⟨rfl, rfl⟩ (by kernel_rfl) rfl
    (fun f fn hf hfn => by
      obtain rfl : f = 6 := Option.some.inj ((show Tryd.prog.funcNamed "belvedere/belvederelaw12.GraphClosed" = some 6 by kernel_rfl).symm.trans hf) |>.symm
      obtain rfl : fn = Tryd.f6 := (Option.some.inj (Tryd.func6.symm.trans hfn)).symm
      exact ⟨by kernel_rfl, fun j t ht => by
        rw [Tryd.params6] at ht
        have h3 : t = 3 ∨ t = 22 ∨ t = 40 := by
          rcases j with _ | _ | _ | j
          · simp at ht; subst ht; simp
          · simp at ht; subst ht; simp
          · simp at ht; subst ht; simp
          · simp at ht
        rcases h3 with rfl | rfl | rfl
        all_goals first | exact (show Tryd.prog.wantsStandIn 3 = false by kernel_rfl) | exact (show Tryd.prog.wantsStandIn 22 = false by kernel_rfl) | exact (show Tryd.prog.wantsStandIn 40 = false by kernel_rfl)⟩)
    (by kernel_rfl)
#print axioms graphClosed_holds
end
end Go.Proofs.YtdgclggmemciaaaDoor
