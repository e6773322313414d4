/- For every state, every most and every result, the law StateResults answers true: the state behind any result and what happened are the document's, and whether a state may be. Condition: errors.errorType reads as the program's text lays it (the card ties it). -/
import Derived.Test.YtimibkjjcnpkjaaDoorLaid
import Derived.Test.YtimibkjjcnpkjaaDoorCards
import Derived.Test.YtimibkjjcnpkjaaDoorTie
import Derived.SevenTiedAt
import Derived.ProofKit
import Derived.OpenShut
import Derived.ShutString
import Derived.ChangeOld
import Derived.SizedLaws
import Derived.Lib.SmallJoins
import Derived.Test.YtimibkjjcnpkjaaDoorLaws
import Derived.Test.YtimibkjjcnpkjaaDoorFlat
namespace Go.Proofs.YtimibkjjcnpkjaaDoor
section
open Go.ChangeShapes Go.WideShapes Go.ChangeAt Go.RowKit Go.Joins
set_option linter.unusedVariables false

set_option maxRecDepth 100000 in
theorem stateResults_lifted (os : Os) (started : os.Started) (H : Type) (enc : TypeId × Value → H) :
    ReturnsInHanded {} Tryd.checked os 3 .any (fun w args => (Rows.stateResultsSpec.pre enc Tryd.prog Tryd.f3 [] false w args ∧ laidMetH Tryd.prog laidL w) ∧ sizedMet enc Tryd.prog Tryd.f3 (OpenSpec.ofChange Rows.stateResultsSpec) false w args)
      (Rows.stateResultsSpec.post enc Tryd.prog Tryd.f3 false true false false) := by
  refine returnsInHanded_of_change_and (C := Tryd.checked) (X := fun w _ => laidMetH Tryd.prog laidL w) (fun _ _ _ hh h => h.of_heap hh) Tryd.own started (by kernel_rfl) Tryd.func3
    (ChangeSpec.witness_at (enc := enc) (C := Tryd.checked) (os := os) (X := fun w _ => laidMetH Tryd.prog laidL w) false (laidWorld os) #[.agg #[.int .i64 0, .bool false, .int .i64 0, .int .i64 0, .int .i64 0], .int .i64 0, .agg #[.int .i64 0, .int .i64 0]] 8 rfl (by kernel_rfl) (by kernel_rfl) (by kernel_rfl) (by kernel_rfl) (by kernel_rfl) (laidWorld_met os _)) ?_
  intro W base args ds gs before hval0 hW _ _ hL hsz0
  have hval : ∀ (j : Nat) t v, Tryd.f3.params[j]? = some t → args[j]? = some v → Value.okWide Tryd.prog W .any base t v := hval0
  have hW' := hW
  obtain ⟨p, q, hA0, hV0, rfl, hfz, hnd⟩ := hW
  have hA : DataW.TrodAll enc Tryd.prog W 0 (fun _ => true) true Tryd.f3.params.toList args.toList ds p := hA0
  have hV : DataW.TrodVars enc Tryd.prog W (fun _ => true) [] gs q := hV0
  rw [Tryd.params3] at hA hval
  obtain ⟨v0, vs0, d0, ds0, p0, q0, hargs0, rfl, rfl, h0, r0⟩ := trodAll_cons hA
  obtain ⟨v1, vs1, d1, ds1, p1, q1, hargs1, rfl, rfl, h1, r1⟩ := trodAll_cons r0
  obtain ⟨v2, vs2, d2, ds2, p2, q2, hargs2, rfl, rfl, h2, r2⟩ := trodAll_cons r1
  obtain ⟨rfl, rfl, rfl⟩ := trodAll_nil r2
  obtain rfl : args = #[v0, v1, v2] := by cases args; simp_all
  have hg := handle_of_laid hL
  obtain ⟨rfl, rfl⟩ : gs = [] ∧ q = [] := by
    cases gs with
    | nil => exact ⟨rfl, hV⟩
    | cons g r => exact absurd hV (by intro h; cases h)
  have k0 := h0
  have lt0 : ∀ x ∈ p0, x.block < W.heap.size := by obtain ⟨m, hm⟩ := k0; exact DataW.trod_lt m _ _ _ hm
  obtain ⟨cs0, n0, rfl, sz0, F0⟩ := flat_struct Tryd.underlying23 (hval 0 23 v0 rfl rfl) h0
  obtain ⟨a0_0, e0_0, w0_0⟩ := one_int Tryd.underlying3 (by kernel_rfl) (F0 0 _ rfl)
  obtain ⟨b0_0, c0_0⟩ := wf_i64 w0_0
  obtain ⟨a0_1, e0_1⟩ := one_bool Tryd.underlying4 (by kernel_rfl) (F0 1 _ rfl)
  obtain ⟨a0_2, e0_2, w0_2⟩ := one_int Tryd.underlying3 (by kernel_rfl) (F0 2 _ rfl)
  obtain ⟨b0_2, c0_2⟩ := wf_i64 w0_2
  obtain ⟨a0_3, e0_3, w0_3⟩ := one_int Tryd.underlying3 (by kernel_rfl) (F0 3 _ rfl)
  obtain ⟨b0_3, c0_3⟩ := wf_i64 w0_3
  obtain ⟨a0_4, e0_4, w0_4⟩ := one_int Tryd.underlying3 (by kernel_rfl) (F0 4 _ rfl)
  obtain ⟨b0_4, c0_4⟩ := wf_i64 w0_4
  obtain rfl : cs0 = #[.int .i64 a0_0, .bool a0_1, .int .i64 a0_2, .int .i64 a0_3, .int .i64 a0_4] := arr_of (l := [.int .i64 a0_0, .bool a0_1, .int .i64 a0_2, .int .i64 a0_3, .int .i64 a0_4]) (n := 5) (sz0.trans (by kernel_rfl)) rfl (by
    intro i hi
    rcases (by omega : i = 0 ∨ i = 1 ∨ i = 2 ∨ i = 3 ∨ i = 4) with rfl | rfl | rfl | rfl | rfl
    · exact e0_0
    · exact e0_1
    · exact e0_2
    · exact e0_3
    · exact e0_4)
  obtain ⟨a1, rfl, rfl, rfl, w1⟩ := open_int Tryd.underlying3 (hval 1 3 v1 rfl rfl) h1
  obtain ⟨b1, c1⟩ := wf_i64 w1
  have k2 := h2
  have lt2 : ∀ x ∈ p2, x.block < W.heap.size := by obtain ⟨m, hm⟩ := k2; exact DataW.trod_lt m _ _ _ hm
  obtain ⟨cs2, n2, rfl, sz2, F2⟩ := flat_array Tryd.underlying24 (hval 2 24 v2 rfl rfl) h2
  replace F2 : ∀ j, j < 2 → ∃ y, DataW.trod enc Tryd.prog W 0 (fun _ => true) true n2 3 ((cs2.toList.drop j).take 1) = some y := by
    intro j hj
    have h := F2 j hj
    rw [show Tryd.prog.cellsOf 3 = 1 from by kernel_rfl, Nat.mul_one] at h
    exact h
  obtain ⟨a2_0, e2_0, w2_0⟩ := one_int Tryd.underlying3 rfl (F2 0 (by decide))
  obtain ⟨b2_0, c2_0⟩ := wf_i64 w2_0
  obtain ⟨a2_1, e2_1, w2_1⟩ := one_int Tryd.underlying3 rfl (F2 1 (by decide))
  obtain ⟨b2_1, c2_1⟩ := wf_i64 w2_1
  obtain rfl : cs2 = #[.int .i64 a2_0, .int .i64 a2_1] := arr_of (l := [.int .i64 a2_0, .int .i64 a2_1]) (n := 2) (sz2.trans (by kernel_rfl)) rfl (by
    intro i hi
    rcases (by omega : i = 0 ∨ i = 1) with rfl | rfl
    · exact e2_0
    · exact e2_1)
  clear hA0 hval0 hsz0
  refine (results_walk a0_0 a0_1 a0_2 a0_3 a0_4 a1 a2_0 a2_1 W hg).mono fun e W' ⟨he, bel⟩ => ?_
  subst he
  exact ⟨_, rfl, _, _, _, [], _, [], hW', trodAll_mk1 (shut_bool Tryd.underlying4 _), (trodAll_cons_mk (Below.trod laidOut (by kernel_rfl) (of_decide_eq_true (by kernel_rfl)) k0 bel lt0) (trodAll_cons_mk (shut_int Tryd.underlying3 w1) (trodAll_cons_mk (Below.trod laidOut (by kernel_rfl) (of_decide_eq_true (by kernel_rfl)) k2 bel lt2) trodAll_mk0))), rfl, bel.frame _, fun h => by cases h⟩
theorem stateResults_row : Rows.StateResultsSaid :=
  OpenClaim.holds_of_wide 3 Tryd.f3 rfl rfl rfl rfl rfl rfl rfl ⟨rfl, rfl, rfl, rfl, rfl⟩ rfl rfl rfl rfl rfl (by kernel_rfl) Tryd.func3 (by kernel_rfl)
    (of_decide_eq_true (by kernel_rfl)) (by unfold Func.isWrapper; first | (rw [if_pos (by decide +kernel)]; kernel_rfl) | (rw [if_neg (by decide +kernel)]; exact ⟨rfl, rfl⟩))
    (fun os started H enc _ => stateResults_lifted os started H enc)
theorem stateResults_holds : Rows.StateResultsCardSaid :=
  Claim7.holds_tied_plain_at .later [] [.handle] true _ true
    stateResults_row (fun _ h => by cases h) (by kernel_rfl) (fun _ h => by cases h) stateResults_row_tie rfl ⟨rfl, rfl⟩ (by kernel_rfl) rfl
    (fun f fn hf hfn => by
      obtain rfl : f = 3 := Option.some.inj ((show Tryd.prog.funcNamed "belvedere/belvederelaw17.StateResults" = some 3 by kernel_rfl).symm.trans hf) |>.symm
      obtain rfl : fn = Tryd.f3 := (Option.some.inj (Tryd.func3.symm.trans hfn)).symm
      exact ⟨by kernel_rfl, fun j t ht => by
        rw [Tryd.params3] at ht
        have h3 : t = 3 ∨ t = 23 ∨ t = 24 := by
          rcases j with _ | _ | _ | j
          · simp at ht; subst ht; simp
          · simp at ht; subst ht; simp
          · simp at ht; subst ht; simp
          · simp at ht
        rcases h3 with rfl | rfl | rfl
        all_goals first | exact (show Tryd.prog.wantsStandIn 3 = false by kernel_rfl) | exact (show Tryd.prog.wantsStandIn 23 = false by kernel_rfl) | exact (show Tryd.prog.wantsStandIn 24 = false by kernel_rfl)⟩)
    (by kernel_rfl)
#print axioms stateResults_holds
end
end Go.Proofs.YtimibkjjcnpkjaaDoor
