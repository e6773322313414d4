/- For every number and every list of acts, the law QueueRuns answers true: whatever is laid, dropped and taken: what is due first, all events in their order, and the errors are the document's. Condition: errors.errorType reads as the program's text lays it (the card ties it). -/
import Derived.Test.YtfbbkeekpkbjhaaDoorLaid
import Derived.Test.YtfbbkeekpkbjhaaDoorCards
import Derived.Test.YtfbbkeekpkbjhaaDoorTie
import Derived.SevenTiedAt
import Derived.ProofKit
import Derived.OpenShut
import Derived.ShutString
import Derived.ChangeOld
import Derived.SizedLaws
import Derived.Lib.SmallJoins
import Derived.Test.YtfbbkeekpkbjhaaDoorD10
import Derived.Test.YtfbbkeekpkbjhaaDoorFlat
namespace Go.Proofs.YtfbbkeekpkbjhaaDoor
section
open Go.ChangeShapes Go.WideShapes Go.ChangeAt Go.RowKit Go.Joins
set_option maxRecDepth 100000 in
theorem quads_of {H : Type} {enc : TypeId × Value → H} {W : World} {a : Option Addr} {len cap : Nat} {d : DataW H} {p : List MemPlace}
    (h : DataW.Trod enc Tryd.prog W 0 (fun _ => true) true 37 (.slice a len cap) d p) : ∃ xs ys zs us, Quad W a len xs ys zs us := by
  obtain ⟨fuel, hf⟩ := h
  have c29 : Tryd.prog.cellsOf 40 = 4 := by kernel_rfl
  have c3 : Tryd.prog.cellsOf 3 = 1 := by kernel_rfl
  rcases DataW.trod_slice Tryd.underlying37 hf with ⟨hcs, _⟩ | ⟨x, l, c, elems, rest, n, rfl, hcs, hx, hb, hl, hm, he, hel, _⟩
  · simp [Value.cells] at hcs
    obtain ⟨rfl, rfl, rfl⟩ := hcs
    exact ⟨fun _ => 0, fun _ => 0, fun _ => 0, fun _ => 0, by omega, fun h => by omega⟩
  · simp [Value.cells] at hcs
    obtain ⟨rfl, rfl, rfl⟩ := hcs
    unfold maxLen at hm
    have key : ∀ j, j < len → ∃ u v t s : Int, W.cell? (x.add (j * 4)) = some (.int .i64 u) ∧ W.cell? ⟨(x.add (j * 4)).block, (x.add (j * 4)).off + 1, none⟩ = some (.int .i64 v) ∧ W.cell? ⟨(x.add (j * 4)).block, (x.add (j * 4)).off + 2, none⟩ = some (.int .i64 t) ∧ W.cell? ⟨(x.add (j * 4)).block, (x.add (j * 4)).off + 3, none⟩ = some (.int .i64 s) := by
      intro j hj
      have hj' : j < elems.length := by omega
      have h1 := hel j hj
      rw [c29, List.getElem?_eq_getElem hj', Option.bind_eq_some_iff] at h1
      obtain ⟨cs, h2, h3⟩ := h1
      obtain ⟨_, hlen, hcell⟩ := World.cells?_some h2
      obtain ⟨ys, m, _, _, _, hl4, hy⟩ := DataW.trod_struct Tryd.underlying40 h3
      have e0 := hcell 0 (by omega)
      have e1 := hcell 1 (by omega)
      have e2 := hcell 2 (by omega)
      have e3 := hcell 3 (by omega)
      match cs, hlen with
      | [u, v, t, s], _ =>
        have y0 := hy 0 _ rfl
        have y1 := hy 1 _ rfl
        have y2 := hy 2 _ rfl
        have y3 := hy 3 _ rfl
        have hys : ys.length = 4 := hl4
        rw [List.getElem?_eq_getElem (by omega)] at y0 y1 y2 y3
        obtain ⟨u', eu, _⟩ := one_int Tryd.underlying3 (by kernel_rfl) ⟨_, y0⟩
        obtain ⟨v', ev, _⟩ := one_int Tryd.underlying3 (by kernel_rfl) ⟨_, y1⟩
        obtain ⟨t', et, _⟩ := one_int Tryd.underlying3 (by kernel_rfl) ⟨_, y2⟩
        obtain ⟨s', es, _⟩ := one_int Tryd.underlying3 (by kernel_rfl) ⟨_, y3⟩
        simp at eu ev et es
        subst eu ev et es
        have a0 : (x.add (j * 4)).add 0 = x.add (j * 4) := by unfold Addr.add; simp
        have a1 : (x.add (j * 4)).add 1 = ⟨(x.add (j * 4)).block, (x.add (j * 4)).off + 1, none⟩ := by rw [Addr.add, if_neg (by decide)]
        have a2 : (x.add (j * 4)).add 2 = ⟨(x.add (j * 4)).block, (x.add (j * 4)).off + 2, none⟩ := by rw [Addr.add, if_neg (by decide)]
        have a3 : (x.add (j * 4)).add 3 = ⟨(x.add (j * 4)).block, (x.add (j * 4)).off + 3, none⟩ := by rw [Addr.add, if_neg (by decide)]
        rw [a0] at e0
        rw [a1] at e1
        rw [a2] at e2
        rw [a3] at e3
        exact ⟨u', v', t', s', e0, e1, e2, e3⟩
    classical
    refine ⟨fun j => if hj : j < len then (key j hj).choose else 0, fun j => if hj : j < len then (key j hj).choose_spec.choose else 0, fun j => if hj : j < len then (key j hj).choose_spec.choose_spec.choose else 0, fun j => if hj : j < len then (key j hj).choose_spec.choose_spec.choose_spec.choose else 0, by omega, fun h0 => ⟨x, rfl, ?_, fun j hj => ?_⟩⟩
    · obtain ⟨u, v, t, s, h1, _⟩ := key 0 h0
      have := World.block_lt_of_cell? W _ h1
      simpa [add_block] using this
    · simp only [dif_pos hj]
      exact (key j hj).choose_spec.choose_spec.choose_spec.choose_spec
end
section
open Go.ChangeShapes Go.WideShapes Go.ChangeAt Go.RowKit Go.Joins
set_option linter.unusedVariables false

set_option maxRecDepth 100000 in
theorem queueRuns_lifted (os : Os) (started : os.Started) (H : Type) (enc : TypeId × Value → H) :
    ReturnsInHanded {} Tryd.checked os 4 .any (fun w args => (Rows.queueRunsSpec.pre enc Tryd.prog Tryd.f4 [] false w args ∧ laidMetH Tryd.prog laidL w) ∧ sizedMet enc Tryd.prog Tryd.f4 (OpenSpec.ofChange Rows.queueRunsSpec) false w args)
      (Rows.queueRunsSpec.post enc Tryd.prog Tryd.f4 false true false false) := by
  refine returnsInHanded_of_change_and (C := Tryd.checked) (X := fun w _ => laidMetH Tryd.prog laidL w) (fun _ _ _ hh h => h.of_heap hh) Tryd.own started (by kernel_rfl) Tryd.func4
    (ChangeSpec.witness_at (enc := enc) (C := Tryd.checked) (os := os) (X := fun w _ => laidMetH Tryd.prog laidL w) false (laidWorld os) #[.int .i64 0, .slice none 0 0] 8 rfl (by kernel_rfl) (by kernel_rfl) (by kernel_rfl) (by kernel_rfl) (by kernel_rfl) (laidWorld_met os _)) ?_
  intro W base args ds gs before hval0 hW _ _ hL hsz0
  have hval : ∀ (j : Nat) t v, Tryd.f4.params[j]? = some t → args[j]? = some v → Value.okWide Tryd.prog W .any base t v := hval0
  have hW' := hW
  obtain ⟨p, q, hA0, hV0, rfl, hfz, hnd⟩ := hW
  have hA : DataW.TrodAll enc Tryd.prog W 0 (fun _ => true) true Tryd.f4.params.toList args.toList ds p := hA0
  have hV : DataW.TrodVars enc Tryd.prog W (fun _ => true) [] gs q := hV0
  rw [Tryd.params4] at hA hval
  obtain ⟨v0, vs0, d0, ds0, p0, q0, hargs0, rfl, rfl, h0, r0⟩ := trodAll_cons hA
  obtain ⟨v1, vs1, d1, ds1, p1, q1, hargs1, rfl, rfl, h1, r1⟩ := trodAll_cons r0
  obtain ⟨rfl, rfl, rfl⟩ := trodAll_nil r1
  obtain rfl : args = #[v0, v1] := by cases args; simp_all
  have hg := handle_of_laid hL
  obtain ⟨rfl, rfl⟩ : gs = [] ∧ q = [] := by
    cases gs with
    | nil => exact ⟨rfl, hV⟩
    | cons g r => exact absurd hV (by intro h; cases h)
  obtain ⟨a0, rfl, rfl, rfl, w0⟩ := open_int Tryd.underlying3 (hval 0 3 v0 rfl rfl) h0
  obtain ⟨b0, c0⟩ := wf_i64 w0
  have k1 := h1
  have lt1 : ∀ x ∈ p1, x.block < W.heap.size := by obtain ⟨m, hm⟩ := k1; exact DataW.trod_lt m _ _ _ hm
  obtain ⟨a1, len1, cap1, rfl⟩ := okWide_slice Tryd.underlying37 (hval 1 37 v1 rfl rfl)
  obtain ⟨x1, y1, z1, u1, i1⟩ := quads_of h1
  clear hA0 hval0 hsz0
  refine (runs_walk a0 a1 len1 cap1 x1 y1 z1 u1 W hg i1).mono fun e W' ⟨he, bel⟩ => ?_
  subst he
  exact ⟨_, rfl, _, _, _, [], _, [], hW', trodAll_mk1 (shut_bool Tryd.underlying4 _), (trodAll_cons_mk (shut_int Tryd.underlying3 w0) (trodAll_cons_mk (Below.trod laidOut (by kernel_rfl) (of_decide_eq_true (by kernel_rfl)) k1 bel lt1) trodAll_mk0)), rfl, bel.frame _, fun h => by cases h⟩
theorem queueRuns_row : Rows.QueueRunsSaid :=
  OpenClaim.holds_of_wide 4 Tryd.f4 rfl rfl rfl rfl rfl rfl rfl ⟨rfl, rfl, rfl, rfl, rfl⟩ rfl rfl rfl rfl rfl (by kernel_rfl) Tryd.func4 (by kernel_rfl)
    (of_decide_eq_true (by kernel_rfl)) (by unfold Func.isWrapper; first | (rw [if_pos (by decide +kernel)]; kernel_rfl) | (rw [if_neg (by decide +kernel)]; exact ⟨rfl, rfl⟩))
    (fun os started H enc _ => queueRuns_lifted os started H enc)
set_option maxRecDepth 100000 in
theorem queueRuns_holds : Rows.QueueRunsCardSaid :=
  Claim7.holds_tied_plain_at .later [] [.handle] true _ true
    queueRuns_row (fun _ h => by cases h) (by kernel_rfl) (fun _ h => by cases h) queueRuns_row_tie rfl ⟨rfl, rfl⟩ (by kernel_rfl) rfl
    (fun f fn hf hfn => by
      obtain rfl : f = 4 := Option.some.inj ((show Tryd.prog.funcNamed "belvedere/belvederelaw15.QueueRuns" = some 4 by kernel_rfl).symm.trans hf) |>.symm
      obtain rfl : fn = Tryd.f4 := (Option.some.inj (Tryd.func4.symm.trans hfn)).symm
      exact ⟨by kernel_rfl, fun j t ht => by
        rw [Tryd.params4] at ht
        have h3 : t = 3 ∨ t = 37 := by
          rcases j with _ | _ | j
          · simp at ht; subst ht; simp
          · simp at ht; subst ht; simp
          · simp at ht
        rcases h3 with rfl | rfl
        all_goals first | exact (show Tryd.prog.wantsStandIn 3 = false by kernel_rfl) | exact (show Tryd.prog.wantsStandIn 37 = false by kernel_rfl)⟩)
    (by kernel_rfl)
#print axioms queueRuns_holds
end
end Go.Proofs.YtfbbkeekpkbjhaaDoor
