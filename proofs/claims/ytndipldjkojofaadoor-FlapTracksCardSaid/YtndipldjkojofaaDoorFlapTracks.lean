/- For every number, every array of 21 states and every state, the law FlapTracks answers true: whether a track may be, its change, and it with any state more are the document's. Condition: errors.errorType reads as the program's text lays it (the card ties it). -/
import Derived.Test.YtndipldjkojofaaDoorLaid
import Derived.Test.YtndipldjkojofaaDoorCards
import Derived.Test.YtndipldjkojofaaDoorTie
import Derived.SevenTiedAt
import Derived.ProofKit
import Derived.OpenShut
import Derived.ShutString
import Derived.ChangeOld
import Derived.SizedLaws
import Derived.Lib.SmallJoins
import Derived.Test.YtndipldjkojofaaDoorTracks
import Derived.Test.YtndipldjkojofaaDoorFlat
namespace Go.Proofs.YtndipldjkojofaaDoor
section
open Go.ChangeShapes Go.WideShapes Go.ChangeAt Go.RowKit Go.Joins
set_option linter.unusedVariables false

set_option maxRecDepth 100000 in
theorem flapTracks_lifted (os : Os) (started : os.Started) (H : Type) (enc : TypeId × Value → H) :
    ReturnsInHanded {} Tryd.checked os 3 .any (fun w args => (Rows.flapTracksSpec.pre enc Tryd.prog Tryd.f3 [] false w args ∧ laidMetH Tryd.prog laidL w) ∧ sizedMet enc Tryd.prog Tryd.f3 (OpenSpec.ofChange Rows.flapTracksSpec) false w args)
      (Rows.flapTracksSpec.post enc Tryd.prog Tryd.f3 false true false false) := by
  refine returnsInHanded_of_change_and (C := Tryd.checked) (X := fun w _ => laidMetH Tryd.prog laidL w) (fun _ _ _ hh h => h.of_heap hh) Tryd.own started (by kernel_rfl) Tryd.func3
    (ChangeSpec.witness_at (enc := enc) (C := Tryd.checked) (os := os) (X := fun w _ => laidMetH Tryd.prog laidL w) false (laidWorld os) #[.int .i64 0, .agg #[.int .i64 0, .int .i64 0, .int .i64 0, .int .i64 0, .int .i64 0, .int .i64 0, .int .i64 0, .int .i64 0, .int .i64 0, .int .i64 0, .int .i64 0, .int .i64 0, .int .i64 0, .int .i64 0, .int .i64 0, .int .i64 0, .int .i64 0, .int .i64 0, .int .i64 0, .int .i64 0, .int .i64 0], .int .i64 0] 8 rfl (by kernel_rfl) (by kernel_rfl) (by kernel_rfl) (by kernel_rfl) (by kernel_rfl) (laidWorld_met os _)) ?_
  intro W base args ds gs before hval0 hW _ _ hL hsz0
  have hval : ∀ (j : Nat) t v, Tryd.f3.params[j]? = some t → args[j]? = some v → Value.okWide Tryd.prog W .any base t v := hval0
  have hW' := hW
  obtain ⟨p, q, hA0, hV0, rfl, hfz, hnd⟩ := hW
  have hA : DataW.TrodAll enc Tryd.prog W 0 (fun _ => true) true Tryd.f3.params.toList args.toList ds p := hA0
  have hV : DataW.TrodVars enc Tryd.prog W (fun _ => true) [] gs q := hV0
  rw [Tryd.params3] at hA hval
  obtain ⟨v0, vs0, d0, ds0, p0, q0, hargs0, rfl, rfl, h0, r0⟩ := trodAll_cons hA
  obtain ⟨v1, vs1, d1, ds1, p1, q1, hargs1, rfl, rfl, h1, r1⟩ := trodAll_cons r0
  obtain ⟨v2, vs2, d2, ds2, p2, q2, hargs2, rfl, rfl, h2, r2⟩ := trodAll_cons r1
  obtain ⟨rfl, rfl, rfl⟩ := trodAll_nil r2
  obtain rfl : args = #[v0, v1, v2] := by cases args; simp_all
  have hg := handle_of_laid hL
  obtain ⟨rfl, rfl⟩ : gs = [] ∧ q = [] := by
    cases gs with
    | nil => exact ⟨rfl, hV⟩
    | cons g r => exact absurd hV (by intro h; cases h)
  obtain ⟨a0, rfl, rfl, rfl, w0⟩ := open_int Tryd.underlying3 (hval 0 3 v0 rfl rfl) h0
  obtain ⟨b0, c0⟩ := wf_i64 w0
  have k1 := h1
  have lt1 : ∀ x ∈ p1, x.block < W.heap.size := by obtain ⟨m, hm⟩ := k1; exact DataW.trod_lt m _ _ _ hm
  obtain ⟨cs1, n1, rfl, sz1, F1⟩ := flat_array Tryd.underlying22 (hval 1 22 v1 rfl rfl) h1
  replace F1 : ∀ j, j < 21 → ∃ y, DataW.trod enc Tryd.prog W 0 (fun _ => true) true n1 3 ((cs1.toList.drop j).take 1) = some y := by
    intro j hj
    have h := F1 j hj
    rw [show Tryd.prog.cellsOf 3 = 1 from by kernel_rfl, Nat.mul_one] at h
    exact h
  obtain ⟨a1_0, e1_0, w1_0⟩ := one_int Tryd.underlying3 rfl (F1 0 (by decide))
  obtain ⟨b1_0, c1_0⟩ := wf_i64 w1_0
  obtain ⟨a1_1, e1_1, w1_1⟩ := one_int Tryd.underlying3 rfl (F1 1 (by decide))
  obtain ⟨b1_1, c1_1⟩ := wf_i64 w1_1
  obtain ⟨a1_2, e1_2, w1_2⟩ := one_int Tryd.underlying3 rfl (F1 2 (by decide))
  obtain ⟨b1_2, c1_2⟩ := wf_i64 w1_2
  obtain ⟨a1_3, e1_3, w1_3⟩ := one_int Tryd.underlying3 rfl (F1 3 (by decide))
  obtain ⟨b1_3, c1_3⟩ := wf_i64 w1_3
  obtain ⟨a1_4, e1_4, w1_4⟩ := one_int Tryd.underlying3 rfl (F1 4 (by decide))
  obtain ⟨b1_4, c1_4⟩ := wf_i64 w1_4
  obtain ⟨a1_5, e1_5, w1_5⟩ := one_int Tryd.underlying3 rfl (F1 5 (by decide))
  obtain ⟨b1_5, c1_5⟩ := wf_i64 w1_5
  obtain ⟨a1_6, e1_6, w1_6⟩ := one_int Tryd.underlying3 rfl (F1 6 (by decide))
  obtain ⟨b1_6, c1_6⟩ := wf_i64 w1_6
  obtain ⟨a1_7, e1_7, w1_7⟩ := one_int Tryd.underlying3 rfl (F1 7 (by decide))
  obtain ⟨b1_7, c1_7⟩ := wf_i64 w1_7
  obtain ⟨a1_8, e1_8, w1_8⟩ := one_int Tryd.underlying3 rfl (F1 8 (by decide))
  obtain ⟨b1_8, c1_8⟩ := wf_i64 w1_8
  obtain ⟨a1_9, e1_9, w1_9⟩ := one_int Tryd.underlying3 rfl (F1 9 (by decide))
  obtain ⟨b1_9, c1_9⟩ := wf_i64 w1_9
  obtain ⟨a1_10, e1_10, w1_10⟩ := one_int Tryd.underlying3 rfl (F1 10 (by decide))
  obtain ⟨b1_10, c1_10⟩ := wf_i64 w1_10
  obtain ⟨a1_11, e1_11, w1_11⟩ := one_int Tryd.underlying3 rfl (F1 11 (by decide))
  obtain ⟨b1_11, c1_11⟩ := wf_i64 w1_11
  obtain ⟨a1_12, e1_12, w1_12⟩ := one_int Tryd.underlying3 rfl (F1 12 (by decide))
  obtain ⟨b1_12, c1_12⟩ := wf_i64 w1_12
  obtain ⟨a1_13, e1_13, w1_13⟩ := one_int Tryd.underlying3 rfl (F1 13 (by decide))
  obtain ⟨b1_13, c1_13⟩ := wf_i64 w1_13
  obtain ⟨a1_14, e1_14, w1_14⟩ := one_int Tryd.underlying3 rfl (F1 14 (by decide))
  obtain ⟨b1_14, c1_14⟩ := wf_i64 w1_14
  obtain ⟨a1_15, e1_15, w1_15⟩ := one_int Tryd.underlying3 rfl (F1 15 (by decide))
  obtain ⟨b1_15, c1_15⟩ := wf_i64 w1_15
  obtain ⟨a1_16, e1_16, w1_16⟩ := one_int Tryd.underlying3 rfl (F1 16 (by decide))
  obtain ⟨b1_16, c1_16⟩ := wf_i64 w1_16
  obtain ⟨a1_17, e1_17, w1_17⟩ := one_int Tryd.underlying3 rfl (F1 17 (by decide))
  obtain ⟨b1_17, c1_17⟩ := wf_i64 w1_17
  obtain ⟨a1_18, e1_18, w1_18⟩ := one_int Tryd.underlying3 rfl (F1 18 (by decide))
  obtain ⟨b1_18, c1_18⟩ := wf_i64 w1_18
  obtain ⟨a1_19, e1_19, w1_19⟩ := one_int Tryd.underlying3 rfl (F1 19 (by decide))
  obtain ⟨b1_19, c1_19⟩ := wf_i64 w1_19
  obtain ⟨a1_20, e1_20, w1_20⟩ := one_int Tryd.underlying3 rfl (F1 20 (by decide))
  obtain ⟨b1_20, c1_20⟩ := wf_i64 w1_20
  obtain rfl : cs1 = #[.int .i64 a1_0, .int .i64 a1_1, .int .i64 a1_2, .int .i64 a1_3, .int .i64 a1_4, .int .i64 a1_5, .int .i64 a1_6, .int .i64 a1_7, .int .i64 a1_8, .int .i64 a1_9, .int .i64 a1_10, .int .i64 a1_11, .int .i64 a1_12, .int .i64 a1_13, .int .i64 a1_14, .int .i64 a1_15, .int .i64 a1_16, .int .i64 a1_17, .int .i64 a1_18, .int .i64 a1_19, .int .i64 a1_20] := arr_of (l := [.int .i64 a1_0, .int .i64 a1_1, .int .i64 a1_2, .int .i64 a1_3, .int .i64 a1_4, .int .i64 a1_5, .int .i64 a1_6, .int .i64 a1_7, .int .i64 a1_8, .int .i64 a1_9, .int .i64 a1_10, .int .i64 a1_11, .int .i64 a1_12, .int .i64 a1_13, .int .i64 a1_14, .int .i64 a1_15, .int .i64 a1_16, .int .i64 a1_17, .int .i64 a1_18, .int .i64 a1_19, .int .i64 a1_20]) (n := 21) (sz1.trans (by kernel_rfl)) rfl (by
    intro i hi
    rcases (by omega : i = 0 ∨ i = 1 ∨ i = 2 ∨ i = 3 ∨ i = 4 ∨ i = 5 ∨ i = 6 ∨ i = 7 ∨ i = 8 ∨ i = 9 ∨ i = 10 ∨ i = 11 ∨ i = 12 ∨ i = 13 ∨ i = 14 ∨ i = 15 ∨ i = 16 ∨ i = 17 ∨ i = 18 ∨ i = 19 ∨ i = 20) with rfl | rfl | rfl | rfl | rfl | rfl | rfl | rfl | rfl | rfl | rfl | rfl | rfl | rfl | rfl | rfl | rfl | rfl | rfl | rfl | rfl
    · exact e1_0
    · exact e1_1
    · exact e1_2
    · exact e1_3
    · exact e1_4
    · exact e1_5
    · exact e1_6
    · exact e1_7
    · exact e1_8
    · exact e1_9
    · exact e1_10
    · exact e1_11
    · exact e1_12
    · exact e1_13
    · exact e1_14
    · exact e1_15
    · exact e1_16
    · exact e1_17
    · exact e1_18
    · exact e1_19
    · exact e1_20)
  obtain ⟨a2, rfl, rfl, rfl, w2⟩ := open_int Tryd.underlying3 (hval 2 3 v2 rfl rfl) h2
  obtain ⟨b2, c2⟩ := wf_i64 w2
  clear hA0 hval0 hsz0
  refine (tracks_walk a0 a2 [a1_0, a1_1, a1_2, a1_3, a1_4, a1_5, a1_6, a1_7, a1_8, a1_9, a1_10, a1_11, a1_12, a1_13, a1_14, a1_15, a1_16, a1_17, a1_18, a1_19, a1_20] rfl W hg).mono fun e W' ⟨he, bel⟩ => ?_
  subst he
  exact ⟨_, rfl, _, _, _, [], _, [], hW', trodAll_mk1 (shut_bool Tryd.underlying4 _), (trodAll_cons_mk (shut_int Tryd.underlying3 w0) (trodAll_cons_mk (Below.trod laidOut (by kernel_rfl) (of_decide_eq_true (by kernel_rfl)) k1 bel lt1) (trodAll_cons_mk (shut_int Tryd.underlying3 w2) trodAll_mk0))), rfl, bel.frame _, fun h => by cases h⟩
theorem flapTracks_row : Rows.FlapTracksSaid :=
  OpenClaim.holds_of_wide 3 Tryd.f3 rfl rfl rfl rfl rfl rfl rfl ⟨rfl, rfl, rfl, rfl, rfl⟩ rfl rfl rfl rfl rfl (by kernel_rfl) Tryd.func3 (by kernel_rfl)
    (of_decide_eq_true (by kernel_rfl)) (by unfold Func.isWrapper; first | (rw [if_pos (by decide +kernel)]; kernel_rfl) | (rw [if_neg (by decide +kernel)]; exact ⟨rfl, rfl⟩))
    (fun os started H enc _ => flapTracks_lifted os started H enc)
theorem flapTracks_holds : Rows.FlapTracksCardSaid :=
  Claim7.holds_tied_plain_at .later [] [.handle] true _ true
    flapTracks_row (fun _ h => by cases h) (by kernel_rfl) (fun _ h => by cases h) flapTracks_row_tie rfl ⟨rfl, rfl⟩ (by kernel_rfl) rfl
    (fun f fn hf hfn => by
      obtain rfl : f = 3 := Option.some.inj ((show Tryd.prog.funcNamed "belvedere/belvederelaw16.FlapTracks" = some 3 by kernel_rfl).symm.trans hf) |>.symm
      obtain rfl : fn = Tryd.f3 := (Option.some.inj (Tryd.func3.symm.trans hfn)).symm
      exact ⟨by kernel_rfl, fun j t ht => by
        rw [Tryd.params3] at ht
        have h3 : t = 3 ∨ t = 22 := by
          rcases j with _ | _ | _ | j
          · simp at ht; subst ht; simp
          · simp at ht; subst ht; simp
          · simp at ht; subst ht; simp
          · simp at ht
        rcases h3 with rfl | rfl
        all_goals first | exact (show Tryd.prog.wantsStandIn 3 = false by kernel_rfl) | exact (show Tryd.prog.wantsStandIn 22 = false by kernel_rfl)⟩)
    (by kernel_rfl)
#print axioms flapTracks_holds
end
end Go.Proofs.YtndipldjkojofaaDoor
