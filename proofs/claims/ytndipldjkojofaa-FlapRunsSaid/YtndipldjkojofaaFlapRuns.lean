/- For every list of states and every two bounds, the law FlapRuns answers true: of any states, one behind the other, the track, the change, and whether it flaps are the document's. No condition. -/
import Derived.Test.YtndipldjkojofaaOpen
import Derived.Test.YtndipldjkojofaaRunsWalk
import Derived.Test.YtndipldjkojofaaFlat
namespace Go.Proofs.Ytndipldjkojofaa
section
open Go.RowKit
end
section
open Go.ChangeShapes Go.WideShapes Go.ChangeAt Go.RowKit Go.Joins
set_option linter.unusedVariables false
theorem flapRuns_own : ownKnob Try.prog.godebug = none := by kernel_rfl
set_option maxRecDepth 100000 in
theorem flapRuns_lifted (os : Os) (started : os.Started) (H : Type) (enc : TypeId × Value → H) :
    ReturnsInHanded {} Try.checked os 4 .any (Rows.flapRunsSpec.pre6 enc Try.prog Try.f4 Rows.flapRunsRow.domain false) (Rows.flapRunsSpec.post enc Try.prog Try.f4 false true false false) := by
  refine returnsInHanded_of_change_sized (C := Try.checked) flapRuns_own started (by kernel_rfl) Try.func4
    (ChangeSpec.witness6 (enc := enc) (C := Try.checked) false ⟨#[], #[.slice none 0 0, .bool false, .agg #[.int .i64 0, .int .i64 0]], []⟩ 8 (by kernel_rfl) (by kernel_rfl) (by kernel_rfl) (by kernel_rfl)) ?_
  intro W base args ds gs before hval0 hW hcnd hsz0 _
  have hval : ∀ (j : Nat) t v, Try.f4.params[j]? = some t → args[j]? = some v → Value.okWide Try.prog W .any base t v := hval0
  have hW' := hW
  obtain ⟨p, q, hA0, hV, rfl, hfz, hnd⟩ := hW
  have hA : DataW.TrodAll enc Try.prog W 0 (fun _ => true) true Try.f4.params.toList args.toList ds p := hA0
  rw [Try.params4] at hA hval
  obtain ⟨v0, vs0, d0, ds0, p0, q0, hargs0, rfl, rfl, h0, r0⟩ := trodAll_cons hA
  obtain ⟨v1, vs1, d1, ds1, p1, q1, hargs1, rfl, rfl, h1, r1⟩ := trodAll_cons r0
  obtain ⟨v2, vs2, d2, ds2, p2, q2, hargs2, rfl, rfl, h2, r2⟩ := trodAll_cons r1
  obtain ⟨rfl, rfl, rfl⟩ := trodAll_nil r2
  obtain rfl : args = #[v0, v1, v2] := by cases args; simp_all
  obtain ⟨rfl, rfl⟩ := trodVars_none hV
  obtain ⟨a0, len0, cap0, rfl⟩ := okWide_slice Try.underlying22 (hval 0 22 v0 rfl rfl)
  have k0 := h0
  have lt0 : ∀ x ∈ p0, x.block < W.heap.size := by obtain ⟨m, hm⟩ := k0; exact DataW.trod_lt m _ _ _ hm
  obtain ⟨x0, i0⟩ := ints_of Try.underlying22 Try.underlying3 (by kernel_rfl) h0
  obtain ⟨a1, rfl, rfl, rfl⟩ := open_bool Try.underlying4 (hval 1 4 v1 rfl rfl) h1
  have k2 := h2
  have lt2 : ∀ x ∈ p2, x.block < W.heap.size := by obtain ⟨m, hm⟩ := k2; exact DataW.trod_lt m _ _ _ hm
  obtain ⟨cs2, n2, rfl, sz2, F2⟩ := flat_array Try.underlying31 (hval 2 31 v2 rfl rfl) h2
  replace F2 : ∀ j, j < 2 → ∃ y, DataW.trod enc Try.prog W 0 (fun _ => true) true n2 3 ((cs2.toList.drop j).take 1) = some y := by
    intro j hj
    have h := F2 j hj
    rw [show Try.prog.cellsOf 3 = 1 from by kernel_rfl, Nat.mul_one] at h
    exact h
  obtain ⟨a2_0, e2_0, w2_0⟩ := one_int Try.underlying3 rfl (F2 0 (by decide))
  obtain ⟨b2_0, c2_0⟩ := wf_i64 w2_0
  obtain ⟨a2_1, e2_1, w2_1⟩ := one_int Try.underlying3 rfl (F2 1 (by decide))
  obtain ⟨b2_1, c2_1⟩ := wf_i64 w2_1
  obtain rfl : cs2 = #[.int .i64 a2_0, .int .i64 a2_1] := arr_of (l := [.int .i64 a2_0, .int .i64 a2_1]) (n := 2) (sz2.trans (by kernel_rfl)) rfl (by
    intro i hi
    rcases (by omega : i = 0 ∨ i = 1) with rfl | rfl
    · exact e2_0
    · exact e2_1)
  clear hA0 hval0 hsz0
  refine (runs_walk a0 len0 cap0 x0 a1 a2_0 a2_1 W i0).mono fun e W' ⟨he, bel⟩ => ?_
  subst he
  exact ⟨_, rfl, _, _, _, [], _, [], hW', trodAll_mk1 (shut_bool Try.underlying4 _), (trodAll_cons_mk (Below.trod laidOut (by kernel_rfl) (of_decide_eq_true (by kernel_rfl)) k0 bel lt0) (trodAll_cons_mk (shut_bool Try.underlying4 _) (trodAll_cons_mk (Below.trod laidOut (by kernel_rfl) (of_decide_eq_true (by kernel_rfl)) k2 bel lt2) trodAll_mk0))), rfl, bel.frame _, fun h => by cases h⟩
theorem flapRuns_holds : Rows.FlapRunsSaid :=
  OpenClaim.holds_of_wide 4 Try.f4 rfl rfl rfl rfl rfl rfl rfl ⟨rfl, rfl, rfl, rfl, rfl⟩ rfl rfl rfl rfl rfl (by kernel_rfl) Try.func4 (by kernel_rfl)
    (of_decide_eq_true (by kernel_rfl)) (by unfold Func.isWrapper; first | (rw [if_pos (by decide +kernel)]; kernel_rfl) | (rw [if_neg (by decide +kernel)]; exact ⟨rfl, rfl⟩))
    (fun os started H enc _ => flapRuns_lifted os started H enc)
#print axioms flapRuns_holds
end
end Go.Proofs.Ytndipldjkojofaa
