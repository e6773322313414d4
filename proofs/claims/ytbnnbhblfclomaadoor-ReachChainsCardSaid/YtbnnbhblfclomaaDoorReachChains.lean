/- For any deps and every pair of numbers, the law ReachChains answers true: what hangs on something hangs on all on which that hangs; what hangs on nothing is not blocked. Condition: errors.errorType reads as the program's text lays it (the card ties it). -/
import Derived.Test.YtbnnbhblfclomaaDoorLaid
import Derived.Test.YtbnnbhblfclomaaDoorCards
import Derived.Test.YtbnnbhblfclomaaDoorTie
import Derived.SevenTiedAt
import Derived.ProofKit
import Derived.OpenShut
import Derived.ShutString
import Derived.ChangeOld
import Derived.SizedLaws
import Derived.Lib.SmallJoins
import Derived.Test.YtbnnbhblfclomaaDoorD3
import Derived.Test.YtbnnbhblfclomaaDoorFlat
namespace Go.Proofs.YtbnnbhblfclomaaDoor
section
open Go.ChangeShapes Go.WideShapes Go.ChangeAt Go.RowKit Go.Joins
set_option linter.unusedVariables false
set_option maxRecDepth 100000 in
theorem deps_of {H : Type} {enc : TypeId × Value → H} {W : World} {a : Option Addr} {len cap : Nat} {d : DataW H} {p : List MemPlace}
    (h : DataW.Trod enc Tryd.prog W 0 (fun _ => true) true 36 (.slice a len cap) d p) : ∃ L : List Dp, RdD W (.slice a len cap) W.heap.size L ∧ L.length ≤ 9223372036854775807 := by
  obtain ⟨fuel, hf⟩ := h
  have c67 : Tryd.prog.cellsOf 67 = 3 := by kernel_rfl
  rcases DataW.trod_slice Tryd.underlying36 hf with ⟨hcs, _⟩ | ⟨x, l, c, elems, rest, n, rfl, hcs, hx, hb, hl, hm, he, hel, _⟩
  · simp [Value.cells] at hcs
    obtain ⟨rfl, rfl, rfl⟩ := hcs
    exact ⟨[], .inl ⟨none, 0, rfl, rfl⟩, by simp⟩
  · simp [Value.cells] at hcs
    obtain ⟨rfl, rfl, rfl⟩ := hcs
    unfold maxLen at hm
    have key : ∀ j, j < len → ∃ e : Dp, (W.cell? (x.add (j * 3)) = some (.int .i64 e.on) ∧ W.cell? ⟨(x.add (j * 3)).block, (x.add (j * 3)).off + 1, none⟩ = some (.int .i64 e.of_) ∧ W.cell? ⟨(x.add (j * 3)).block, (x.add (j * 3)).off + 2, none⟩ = some (.int .i64 e.m)) := by
      intro j hj
      have hj' : j < elems.length := by omega
      have h1 := hel j hj
      rw [c67, List.getElem?_eq_getElem hj', Option.bind_eq_some_iff] at h1
      obtain ⟨cs, h2, h3⟩ := h1
      obtain ⟨_, hlen, hcell⟩ := World.cells?_some h2
      obtain ⟨ys, m, _, _, _, hl4, hy⟩ := DataW.trod_struct Tryd.underlying67 h3
      have e0 := hcell 0 (by omega)
      have e1 := hcell 1 (by omega)
      have e2 := hcell 2 (by omega)
      match cs, hlen with
      | [u, v, t], _ =>
        have y0 := hy 0 _ rfl
        have y1 := hy 1 _ rfl
        have y2 := hy 2 _ rfl
        have hys : ys.length = 3 := hl4
        rw [List.getElem?_eq_getElem (by omega)] at y0 y1 y2
        obtain ⟨u', eu, _⟩ := one_int Tryd.underlying3 (by kernel_rfl) ⟨_, y0⟩
        obtain ⟨v', ev, _⟩ := one_int Tryd.underlying3 (by kernel_rfl) ⟨_, y1⟩
        obtain ⟨t', et, _⟩ := one_int Tryd.underlying3 (by kernel_rfl) ⟨_, y2⟩
        simp at eu ev et
        subst eu ev et
        have a0 : (x.add (j * 3)).add 0 = x.add (j * 3) := by unfold Addr.add; simp
        have a1 : (x.add (j * 3)).add 1 = ⟨(x.add (j * 3)).block, (x.add (j * 3)).off + 1, none⟩ := by rw [Addr.add, if_neg (by decide)]
        have a2 : (x.add (j * 3)).add 2 = ⟨(x.add (j * 3)).block, (x.add (j * 3)).off + 2, none⟩ := by rw [Addr.add, if_neg (by decide)]
        rw [a0] at e0
        rw [a1] at e1
        rw [a2] at e2
        exact ⟨⟨u', v', t'⟩, e0, e1, e2⟩
    classical
    let f : Nat → Dp := fun j => if hj : j < len then (key j hj).choose else dp0
    have hf : ∀ j (hj : j < len), f j = (key j hj).choose := fun j hj => by simp only [f, dif_pos hj]
    have hL : ((List.range len).map f).length = len := by simp
    refine ⟨(List.range len).map f, ?_, by rw [hL]; omega⟩
    by_cases h0 : len = 0
    · subst h0; exact .inl ⟨some x, cap, rfl, by simp⟩
    · obtain ⟨g, o, s⟩ := x
      have h00 := (key 0 (by omega)).choose_spec.1
      have hs : s = none := by simpa [Addr.add] using World.cell?_spot h00
      subst hs
      have hg := World.block_lt_of_cell? W _ h00
      rw [add_block] at hg
      refine .inr ⟨g, o, cap, by rw [hL], hg, fun j hj => ?_⟩
      rw [hL] at hj
      have hadd : ∀ k, ((⟨g, o, none⟩ : Addr).add k) = ⟨g, o + k, none⟩ := fun k => by unfold Addr.add; split <;> simp_all
      have := (key j hj).choose_spec
      have e : ((List.range len).map f).getD j dp0 = (key j hj).choose := by rw [← hf j hj]; simp [List.getD_eq_getElem?_getD, hj]
      rw [e]
      obtain ⟨E, hE⟩ : ∃ E, E = (key j hj).choose := ⟨_, rfl⟩
      rw [← hE] at this ⊢
      rw [hadd] at this
      exact this
end
section
open Go.ChangeShapes Go.WideShapes Go.ChangeAt Go.RowKit Go.Joins
set_option linter.unusedVariables false

set_option maxRecDepth 100000 in
theorem reachChains_lifted (os : Os) (started : os.Started) (H : Type) (enc : TypeId × Value → H) :
    ReturnsInHanded {} Tryd.checked os 5 .any (fun w args => (Rows.reachChainsSpec.pre enc Tryd.prog Tryd.f5 [] false w args ∧ laidMetH Tryd.prog laidL w) ∧ sizedMet enc Tryd.prog Tryd.f5 (OpenSpec.ofChange Rows.reachChainsSpec) false w args)
      (Rows.reachChainsSpec.post enc Tryd.prog Tryd.f5 false true false false) := by
  refine returnsInHanded_of_change_and (C := Tryd.checked) (X := fun w _ => laidMetH Tryd.prog laidL w) (fun _ _ _ hh h => h.of_heap hh) Tryd.own started (by kernel_rfl) Tryd.func5
    (ChangeSpec.witness_at (enc := enc) (C := Tryd.checked) (os := os) (X := fun w _ => laidMetH Tryd.prog laidL w) false (laidWorld os) #[.slice none 0 0, .int .i64 0, .int .i64 0] 8 rfl (by kernel_rfl) (by kernel_rfl) (by kernel_rfl) (by kernel_rfl) (by kernel_rfl) (laidWorld_met os _)) ?_
  intro W base args ds gs before hval0 hW _ _ hL hsz0
  have hval : ∀ (j : Nat) t v, Tryd.f5.params[j]? = some t → args[j]? = some v → Value.okWide Tryd.prog W .any base t v := hval0
  have hW' := hW
  obtain ⟨p, q, hA0, hV0, rfl, hfz, hnd⟩ := hW
  have hA : DataW.TrodAll enc Tryd.prog W 0 (fun _ => true) true Tryd.f5.params.toList args.toList ds p := hA0
  have hV : DataW.TrodVars enc Tryd.prog W (fun _ => true) [] gs q := hV0
  rw [Tryd.params5] at hA hval
  obtain ⟨v0, vs0, d0, ds0, p0, q0, hargs0, rfl, rfl, h0, r0⟩ := trodAll_cons hA
  obtain ⟨v1, vs1, d1, ds1, p1, q1, hargs1, rfl, rfl, h1, r1⟩ := trodAll_cons r0
  obtain ⟨v2, vs2, d2, ds2, p2, q2, hargs2, rfl, rfl, h2, r2⟩ := trodAll_cons r1
  obtain ⟨rfl, rfl, rfl⟩ := trodAll_nil r2
  obtain rfl : args = #[v0, v1, v2] := by cases args; simp_all
  have hg := handle_of_laid hL
  obtain ⟨rfl, rfl⟩ : gs = [] ∧ q = [] := by
    cases gs with
    | nil => exact ⟨rfl, hV⟩
    | cons g r => exact absurd hV (by intro h; cases h)
  have k0 := h0
  have lt0 : ∀ x ∈ p0, x.block < W.heap.size := by obtain ⟨m, hm⟩ := k0; exact DataW.trod_lt m _ _ _ hm
  obtain ⟨a0, len0, cap0, rfl⟩ := okWide_slice Tryd.underlying36 (hval 0 36 v0 rfl rfl)
  obtain ⟨L0, i0, l0⟩ := deps_of h0
  obtain ⟨a1, rfl, rfl, rfl, w1⟩ := open_int Tryd.underlying3 (hval 1 3 v1 rfl rfl) h1
  obtain ⟨b1, c1⟩ := wf_i64 w1
  obtain ⟨a2, rfl, rfl, rfl, w2⟩ := open_int Tryd.underlying3 (hval 2 3 v2 rfl rfl) h2
  obtain ⟨b2, c2⟩ := wf_i64 w2
  clear hA0 hval0 hsz0
  refine (reachChains_walk _ L0 a1 a2 W hg i0 l0).mono fun e W' ⟨he, bel⟩ => ?_
  subst he
  exact ⟨_, rfl, _, _, _, [], _, [], hW', trodAll_mk1 (shut_bool Tryd.underlying4 _), (trodAll_cons_mk (Below.trod laidOut (by kernel_rfl) (of_decide_eq_true (by kernel_rfl)) k0 bel lt0) (trodAll_cons_mk (shut_int Tryd.underlying3 w1) (trodAll_cons_mk (shut_int Tryd.underlying3 w2) trodAll_mk0))), rfl, bel.frame _, fun h => by cases h⟩
set_option maxRecDepth 100000 in
theorem reachChains_row : Rows.ReachChainsSaid :=
  OpenClaim.holds_of_wide 5 Tryd.f5 rfl rfl rfl rfl rfl rfl rfl ⟨rfl, rfl, rfl, rfl, rfl⟩ rfl rfl rfl rfl rfl (by kernel_rfl) Tryd.func5 (by kernel_rfl)
    (of_decide_eq_true (by kernel_rfl)) (by unfold Func.isWrapper; first | (rw [if_pos (by decide +kernel)]; kernel_rfl) | (rw [if_neg (by decide +kernel)]; exact ⟨rfl, rfl⟩))
    (fun os started H enc _ => reachChains_lifted os started H enc)
set_option maxRecDepth 100000 in
theorem reachChains_holds : Rows.ReachChainsCardSaid :=
  Claim7.holds_tied_plain_at .later [] [.handle] true _ true
    reachChains_row (fun _ h => by cases h) (by kernel_rfl) (fun _ h => by cases h) reachChains_row_tie rfl ⟨rfl, rfl⟩ (by kernel_rfl) rfl
    (fun f fn hf hfn => by
      obtain rfl : f = 5 := Option.some.inj ((show Tryd.prog.funcNamed "belvedere/belvederelaw19.ReachChains" = some 5 by kernel_rfl).symm.trans hf) |>.symm
      obtain rfl : fn = Tryd.f5 := (Option.some.inj (Tryd.func5.symm.trans hfn)).symm
      exact ⟨by kernel_rfl, fun j t ht => by
        rw [Tryd.params5] at ht
        have h3 : t = 3 ∨ t = 36 := by
          rcases j with _ | _ | _ | j
          · simp at ht; subst ht; simp
          · simp at ht; subst ht; simp
          · simp at ht; subst ht; simp
          · simp at ht
        rcases h3 with rfl | rfl
        all_goals first | exact (show Tryd.prog.wantsStandIn 3 = false by kernel_rfl) | exact (show Tryd.prog.wantsStandIn 36 = false by kernel_rfl)⟩)
    (by kernel_rfl)
#print axioms reachChains_holds
end
end Go.Proofs.YtbnnbhblfclomaaDoor
