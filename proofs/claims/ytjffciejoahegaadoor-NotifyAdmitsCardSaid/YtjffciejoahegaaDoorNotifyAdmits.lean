/- For every case and every person, the law NotifyAdmits answers true: which filter holds a case back, of an object and of any contact, the bit of any kind and status, and the kinds' words are the document's. Condition: notify.words reads as the program's text lays it (the card ties it). -/
import Derived.Test.YtjffciejoahegaaDoorLaid
import Derived.Test.YtjffciejoahegaaDoorCards
import Derived.Test.YtjffciejoahegaaDoorTie
import Derived.SevenTiedAt
import Derived.LaidMore
import Derived.ProofKit
import Derived.OpenShut
import Derived.ShutString
import Derived.ChangeOld
import Derived.SizedLaws
import Derived.Lib.SmallJoins
import Derived.Test.YtjffciejoahegaaDoorAdmitsWalk
import Derived.Test.YtjffciejoahegaaDoorFlat
namespace Go.Proofs.YtjffciejoahegaaDoor
section
open Go.ChangeShapes Go.WideShapes Go.ChangeAt Go.RowKit Go.Joins
set_option linter.unusedVariables false

set_option maxRecDepth 100000 in
theorem notifyAdmits_lifted (os : Os) (started : os.Started) (H : Type) (enc : TypeId × Value → H) :
    ReturnsInHanded {} Tryd.checked os 4 .any (fun w args => (Rows.notifyAdmitsSpec.pre enc Tryd.prog Tryd.f4 [] false w args ∧ laidMetH Tryd.prog laidL w) ∧ sizedMet enc Tryd.prog Tryd.f4 (OpenSpec.ofChange Rows.notifyAdmitsSpec) false w args)
      (Rows.notifyAdmitsSpec.post enc Tryd.prog Tryd.f4 false true false false) := by
  refine returnsInHanded_of_change_and (C := Tryd.checked) (X := fun w _ => laidMetH Tryd.prog laidL w) (fun _ _ _ hh h => h.of_heap hh) Tryd.own started (by kernel_rfl) Tryd.func4
    (ChangeSpec.witness_shaped (enc := enc) (C := Tryd.checked) (os := os) (X := fun w _ => laidMetH Tryd.prog laidL w) false (World.doorLaid Tryd.prog 400 os) #[.agg #[.int .i64 0, .int .i64 0, .bool false, .bool false, .bool false, .bool false, .bool false, .bool false, .int .i64 0, .int .i64 0], .agg #[.bool false, .bool false, .int .i64 0]] 8 rfl (World.shaped_of_RefB (by kernel_rfl) (by kernel_rfl)) (by kernel_rfl) (by kernel_rfl) (by kernel_rfl) (door_met os _)) ?_
  intro W base args ds gs before hval0 hW _ _ hL hsz0
  have hval : ∀ (j : Nat) t v, Tryd.f4.params[j]? = some t → args[j]? = some v → Value.okWide Tryd.prog W .any base t v := hval0
  have hW' := hW
  obtain ⟨p, q, hA0, hV0, rfl, hfz, hnd⟩ := hW
  have hA : DataW.TrodAll enc Tryd.prog W 0 (fun _ => true) true Tryd.f4.params.toList args.toList ds p := hA0
  have hV : DataW.TrodVars enc Tryd.prog W (fun _ => true) [] gs q := hV0
  rw [Tryd.params4] at hA hval
  obtain ⟨v0, vs0, d0, ds0, p0, q0, hargs0, rfl, rfl, h0, r0⟩ := trodAll_cons hA
  obtain ⟨v1, vs1, d1, ds1, p1, q1, hargs1, rfl, rfl, h1, r1⟩ := trodAll_cons r0
  obtain ⟨rfl, rfl, rfl⟩ := trodAll_nil r1
  obtain rfl : args = #[v0, v1] := by cases args; simp_all
  have hw := words_of_laid hL
  obtain ⟨rfl, rfl⟩ : gs = [] ∧ q = [] := by
    cases gs with
    | nil => exact ⟨rfl, hV⟩
    | cons g r => exact absurd hV (by intro h; cases h)
  have k0 := h0
  have lt0 : ∀ x ∈ p0, x.block < W.heap.size := by obtain ⟨m, hm⟩ := k0; exact DataW.trod_lt m _ _ _ hm
  obtain ⟨cs0, n0, rfl, sz0, F0⟩ := flat_struct Tryd.underlying23 (hval 0 23 v0 rfl rfl) h0
  obtain ⟨a0_0, e0_0, w0_0⟩ := one_int Tryd.underlying3 (by kernel_rfl) (F0 0 _ rfl)
  obtain ⟨b0_0, c0_0⟩ := wf_i64 w0_0
  obtain ⟨a0_1, e0_1, w0_1⟩ := one_int Tryd.underlying3 (by kernel_rfl) (F0 1 _ rfl)
  obtain ⟨b0_1, c0_1⟩ := wf_i64 w0_1
  obtain ⟨a0_2, e0_2⟩ := one_bool Tryd.underlying4 (by kernel_rfl) (F0 2 _ rfl)
  obtain ⟨a0_3, e0_3⟩ := one_bool Tryd.underlying4 (by kernel_rfl) (F0 3 _ rfl)
  obtain ⟨a0_4, e0_4⟩ := one_bool Tryd.underlying4 (by kernel_rfl) (F0 4 _ rfl)
  obtain ⟨a0_5, e0_5⟩ := one_bool Tryd.underlying4 (by kernel_rfl) (F0 5 _ rfl)
  obtain ⟨a0_6, e0_6⟩ := one_bool Tryd.underlying4 (by kernel_rfl) (F0 6 _ rfl)
  obtain ⟨a0_7, e0_7⟩ := one_bool Tryd.underlying4 (by kernel_rfl) (F0 7 _ rfl)
  obtain ⟨a0_8, e0_8, w0_8⟩ := one_int Tryd.underlying3 (by kernel_rfl) (F0 8 _ rfl)
  obtain ⟨b0_8, c0_8⟩ := wf_i64 w0_8
  obtain ⟨a0_9, e0_9, w0_9⟩ := one_int Tryd.underlying3 (by kernel_rfl) (F0 9 _ rfl)
  obtain ⟨b0_9, c0_9⟩ := wf_i64 w0_9
  obtain rfl : cs0 = #[.int .i64 a0_0, .int .i64 a0_1, .bool a0_2, .bool a0_3, .bool a0_4, .bool a0_5, .bool a0_6, .bool a0_7, .int .i64 a0_8, .int .i64 a0_9] := arr_of (l := [.int .i64 a0_0, .int .i64 a0_1, .bool a0_2, .bool a0_3, .bool a0_4, .bool a0_5, .bool a0_6, .bool a0_7, .int .i64 a0_8, .int .i64 a0_9]) (n := 10) (sz0.trans (by kernel_rfl)) rfl (by
    intro i hi
    rcases (by omega : i = 0 ∨ i = 1 ∨ i = 2 ∨ i = 3 ∨ i = 4 ∨ i = 5 ∨ i = 6 ∨ i = 7 ∨ i = 8 ∨ i = 9) with rfl | rfl | rfl | rfl | rfl | rfl | rfl | rfl | rfl | rfl
    · exact e0_0
    · exact e0_1
    · exact e0_2
    · exact e0_3
    · exact e0_4
    · exact e0_5
    · exact e0_6
    · exact e0_7
    · exact e0_8
    · exact e0_9)
  have k1 := h1
  have lt1 : ∀ x ∈ p1, x.block < W.heap.size := by obtain ⟨m, hm⟩ := k1; exact DataW.trod_lt m _ _ _ hm
  obtain ⟨cs1, n1, rfl, sz1, F1⟩ := flat_struct Tryd.underlying32 (hval 1 32 v1 rfl rfl) h1
  obtain ⟨a1_0, e1_0⟩ := one_bool Tryd.underlying4 (by kernel_rfl) (F1 0 _ rfl)
  obtain ⟨a1_1, e1_1⟩ := one_bool Tryd.underlying4 (by kernel_rfl) (F1 1 _ rfl)
  obtain ⟨a1_2, e1_2, w1_2⟩ := one_int Tryd.underlying3 (by kernel_rfl) (F1 2 _ rfl)
  obtain ⟨b1_2, c1_2⟩ := wf_i64 w1_2
  obtain rfl : cs1 = #[.bool a1_0, .bool a1_1, .int .i64 a1_2] := arr_of (l := [.bool a1_0, .bool a1_1, .int .i64 a1_2]) (n := 3) (sz1.trans (by kernel_rfl)) rfl (by
    intro i hi
    rcases (by omega : i = 0 ∨ i = 1 ∨ i = 2) with rfl | rfl | rfl
    · exact e1_0
    · exact e1_1
    · exact e1_2)
  clear hA0 hval0 hsz0
  refine (admits_walk a0_0 a0_1 a0_8 a0_9 a0_2 a0_3 a0_4 a0_5 a0_6 a0_7 a1_0 a1_1 a1_2 W hw b0_8 c0_8 b0_9 c0_9 b1_2 c1_2).mono fun e W' ⟨he, bel⟩ => ?_
  subst he
  exact ⟨_, rfl, _, _, _, [], _, [], hW', trodAll_mk1 (shut_bool Tryd.underlying4 _), (trodAll_cons_mk (Below.trod laidOut (by kernel_rfl) (of_decide_eq_true (by kernel_rfl)) k0 bel lt0) (trodAll_cons_mk (Below.trod laidOut (by kernel_rfl) (of_decide_eq_true (by kernel_rfl)) k1 bel lt1) trodAll_mk0)), rfl, bel.frame _, fun h => by cases h⟩
theorem notifyAdmits_row : Rows.NotifyAdmitsSaid :=
  OpenClaim.holds_of_wide 4 Tryd.f4 rfl rfl rfl rfl rfl rfl rfl ⟨rfl, rfl, rfl, rfl, rfl⟩ rfl rfl rfl rfl rfl (by kernel_rfl) Tryd.func4 (by kernel_rfl)
    (of_decide_eq_true (by kernel_rfl)) (by unfold Func.isWrapper; first | (rw [if_pos (by decide +kernel)]; kernel_rfl) | (rw [if_neg (by decide +kernel)]; exact ⟨rfl, rfl⟩))
    (fun os started H enc _ => notifyAdmits_lifted os started H enc)
theorem notifyAdmits_holds : Rows.NotifyAdmitsCardSaid :=
  Claim7.holds_tied_plain_at .later [] [.data] true _ false
    notifyAdmits_row (fun _ h => by cases h) (by kernel_rfl) (fun _ h => by cases h) notifyAdmits_row_tie rfl ⟨rfl, rfl⟩ (by kernel_rfl) rfl
    (fun f fn hf hfn => by
      obtain rfl : f = 4 := Option.some.inj ((show Tryd.prog.funcNamed "belvedere/belvederelaw22.NotifyAdmits" = some 4 by kernel_rfl).symm.trans hf) |>.symm
      obtain rfl : fn = Tryd.f4 := (Option.some.inj (Tryd.func4.symm.trans hfn)).symm
      exact ⟨by kernel_rfl, fun j t ht => by
        rw [Tryd.params4] at ht
        have h3 : t = 23 ∨ t = 32 := by
          rcases j with _ | _ | j
          · simp at ht; subst ht; simp
          · simp at ht; subst ht; simp
          · simp at ht
        rcases h3 with rfl | rfl
        all_goals first | exact (show Tryd.prog.wantsStandIn 23 = false by kernel_rfl) | exact (show Tryd.prog.wantsStandIn 32 = false by kernel_rfl)⟩)
    (by kernel_rfl)
#print axioms notifyAdmits_holds
end
end Go.Proofs.YtjffciejoahegaaDoor
