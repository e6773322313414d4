/- For all hosts with any parents, whichever failed, and every number, the law ReachAway answers true: what has not failed is up; a host that is unreachable has parents, none of which is up; one that is down has none, or one that is up; with one more that has failed, no host that was not up comes up. No condition. -/
import Derived.Test.YtbnnbhblfclomaaOpen
import Derived.Test.YtbnnbhblfclomaaA1
import Derived.Test.YtbnnbhblfclomaaFlat
namespace Go.Proofs.Ytbnnbhblfclomaa
section
open Go.RowKit
end
section
open Go.ChangeShapes Go.WideShapes Go.ChangeAt Go.RowKit Go.Joins
set_option linter.unusedVariables false
theorem rdi_trod {H : Type} {enc : TypeId × Value → H} {W : World} {n : Nat} {cs : List Value} {y : DataW H × List MemPlace}
    (h : DataW.trod enc Try.prog W 0 (fun _ => true) true n 26 cs = some y) : ∃ A L cap, cs = [.slice A L.length cap] ∧ RdI W (.slice A L.length cap) W.heap.size L ∧ L.length ≤ 9223372036854775807 := by
  have c3 : Try.prog.cellsOf 3 = 1 := by kernel_rfl
  rcases DataW.trod_slice Try.underlying26 h with ⟨hcs, _⟩ | ⟨x, l, c, elems, rest, n, rfl, hcs, hx, hb, hl, hm, he, hel, _⟩
  · exact ⟨none, [], 0, hcs, .inl ⟨none, 0, rfl, fun _ => rfl, rfl⟩, by simp⟩
  · unfold maxLen at hm
    have key : ∀ j, j < l → ∃ u : Int, W.cell? (x.add j) = some (.int .i64 u) := by
      intro j hj
      have hj' : j < elems.length := by omega
      have h1 := hel j hj
      rw [c3, Nat.mul_one, List.getElem?_eq_getElem hj', Option.bind_eq_some_iff] at h1
      obtain ⟨cs', h2, h3⟩ := h1
      obtain ⟨_, hlen, hcell⟩ := World.cells?_some h2
      obtain ⟨a, e, _, _⟩ := DataW.trod_int Try.underlying3 h3
      have e0 := hcell 0 (by omega)
      have a0 : (x.add j).add 0 = x.add j := by unfold Addr.add; simp
      rw [a0] at e0
      subst e
      exact ⟨a, e0⟩
    classical
    let f : Nat → Int := fun j => if hj : j < l then (key j hj).choose else 0
    have hf : ∀ j, j < l → W.cell? (x.add j) = some (.int .i64 (f j)) := fun j hj => by simp only [f, dif_pos hj]; exact (key j hj).choose_spec
    have hL : ((List.range l).map f).length = l := by simp
    refine ⟨some x, (List.range l).map f, c, by rw [hL]; exact hcs, ?_, by rw [hL]; omega⟩
    by_cases h0 : l = 0
    · subst h0; exact .inl ⟨some x, c, by simp, (fun h => by cases h), by simp⟩
    · obtain ⟨g, o, s⟩ := x
      have hs : s = none := by simpa [Addr.add] using World.cell?_spot (hf 0 (by omega))
      subst hs
      have hg := World.block_lt_of_cell? W _ (hf 0 (by omega))
      rw [add_block] at hg
      refine .inr ⟨g, o, c, by rw [hL], hg, fun j hj => ?_⟩
      rw [hL] at hj
      have hadd : ((⟨g, o, none⟩ : Addr).add j) = ⟨g, o + j, none⟩ := by unfold Addr.add; split <;> simp_all
      have := hf j hj
      rw [hadd] at this
      rw [this]
      simp [List.getD_eq_getElem?_getD, hj]
set_option maxRecDepth 100000 in
theorem lists_of {H : Type} {enc : TypeId × Value → H} {W : World} {a : Option Addr} {len cap : Nat} {d : DataW H} {p : List MemPlace}
    (h : DataW.Trod enc Try.prog W 0 (fun _ => true) true 22 (.slice a len cap) d p) : ∃ L : List (List Int), RdLL W (.slice a len cap) W.heap.size L ∧ L.length ≤ 9223372036854775807 ∧ ∀ i, i < L.length → (Par L i).length ≤ 9223372036854775807 := by
  obtain ⟨fuel, hf⟩ := h
  have c26 : Try.prog.cellsOf 26 = 1 := by kernel_rfl
  rcases DataW.trod_slice Try.underlying22 hf with ⟨hcs, _⟩ | ⟨x, l, c, elems, rest, n, rfl, hcs, hx, hb, hl, hm, he, hel, _⟩
  · simp [Value.cells] at hcs
    obtain ⟨rfl, rfl, rfl⟩ := hcs
    exact ⟨[], .inl ⟨none, 0, rfl, rfl⟩, by simp, fun i hi => by simp at hi⟩
  · simp [Value.cells] at hcs
    obtain ⟨rfl, rfl, rfl⟩ := hcs
    unfold maxLen at hm
    have key : ∀ j, j < len → ∃ L : List Int, ∃ u, W.cell? (x.add j) = some u ∧ RdI W u W.heap.size L ∧ L.length ≤ 9223372036854775807 := by
      intro j hj
      have hj' : j < elems.length := by omega
      have h1 := hel j hj
      rw [c26, Nat.mul_one, List.getElem?_eq_getElem hj', Option.bind_eq_some_iff] at h1
      obtain ⟨cs, h2, h3⟩ := h1
      obtain ⟨_, hlen, hcell⟩ := World.cells?_some h2
      have e0 := hcell 0 (by omega)
      have a0 : (x.add j).add 0 = x.add j := by unfold Addr.add; simp
      rw [a0] at e0
      obtain ⟨A, L, cp, e, hR, hl⟩ := rdi_trod h3
      subst e
      exact ⟨L, _, e0, hR, hl⟩
    classical
    let f : Nat → List Int := fun j => if hj : j < len then (key j hj).choose else []
    have hf : ∀ j (hj : j < len), f j = (key j hj).choose := fun j hj => by simp only [f, dif_pos hj]
    have hL : ((List.range len).map f).length = len := by simp
    have hget : ∀ j, j < len → ((List.range len).map f).getD j [] = f j := fun j hj => by simp [List.getD_eq_getElem?_getD, hj]
    refine ⟨(List.range len).map f, ?_, by rw [hL]; omega, fun i hi => ?_⟩
    · by_cases h0 : len = 0
      · subst h0; exact .inl ⟨some x, cap, rfl, by simp⟩
      · obtain ⟨g, o, s⟩ := x
        obtain ⟨u0, h00, _⟩ := (key 0 (by omega)).choose_spec
        have hs : s = none := by simpa [Addr.add] using World.cell?_spot h00
        subst hs
        have hg := World.block_lt_of_cell? W _ h00
        rw [add_block] at hg
        refine .inr ⟨g, o, cap, by rw [hL], hg, fun j hj => ?_⟩
        rw [hL] at hj
        have hadd : ∀ k, ((⟨g, o, none⟩ : Addr).add k) = ⟨g, o + k, none⟩ := fun k => by unfold Addr.add; split <;> simp_all
        obtain ⟨u, h1, h2, _⟩ := (key j hj).choose_spec
        rw [hadd] at h1
        rw [hget j hj, hf j hj]
        exact ⟨u, h1, h2⟩
    · rw [hL] at hi
      unfold Par
      rw [hget i hi, hf i hi]
      obtain ⟨u, _, _, h3⟩ := (key i hi).choose_spec
      exact h3
set_option maxRecDepth 100000 in
theorem bools_of {H : Type} {enc : TypeId × Value → H} {W : World} {a : Option Addr} {len cap : Nat} {d : DataW H} {p : List MemPlace}
    (h : DataW.Trod enc Try.prog W 0 (fun _ => true) true 23 (.slice a len cap) d p) : ∃ L : List Bool, RdB W (.slice a len cap) W.heap.size L ∧ L.length ≤ 9223372036854775807 := by
  obtain ⟨fuel, hf⟩ := h
  have c4 : Try.prog.cellsOf 4 = 1 := by kernel_rfl
  rcases DataW.trod_slice Try.underlying23 hf with ⟨hcs, _⟩ | ⟨x, l, c, elems, rest, n, rfl, hcs, hx, hb, hl, hm, he, hel, _⟩
  · simp [Value.cells] at hcs
    obtain ⟨rfl, rfl, rfl⟩ := hcs
    exact ⟨[], .inl ⟨none, 0, rfl, rfl⟩, by simp⟩
  · simp [Value.cells] at hcs
    obtain ⟨rfl, rfl, rfl⟩ := hcs
    unfold maxLen at hm
    have key : ∀ j, j < len → ∃ b : Bool, W.cell? (x.add j) = some (.bool b) := by
      intro j hj
      have hj' : j < elems.length := by omega
      have h1 := hel j hj
      rw [c4, Nat.mul_one, List.getElem?_eq_getElem hj', Option.bind_eq_some_iff] at h1
      obtain ⟨cs, h2, h3⟩ := h1
      obtain ⟨_, hlen, hcell⟩ := World.cells?_some h2
      have e0 := hcell 0 (by omega)
      have a0 : (x.add j).add 0 = x.add j := by unfold Addr.add; simp
      rw [a0] at e0
      obtain ⟨b, e, _⟩ := DataW.trod_bool Try.underlying4 h3
      subst e
      exact ⟨b, e0⟩
    classical
    let f : Nat → Bool := fun j => if hj : j < len then (key j hj).choose else false
    have hf : ∀ j (hj : j < len), f j = (key j hj).choose := fun j hj => by simp only [f, dif_pos hj]
    have hL : ((List.range len).map f).length = len := by simp
    refine ⟨(List.range len).map f, ?_, by rw [hL]; omega⟩
    by_cases h0 : len = 0
    · subst h0; exact .inl ⟨some x, cap, rfl, by simp⟩
    · obtain ⟨g, o, s⟩ := x
      have h00 := (key 0 (by omega)).choose_spec
      have hs : s = none := by simpa [Addr.add] using World.cell?_spot h00
      subst hs
      have hg := World.block_lt_of_cell? W _ h00
      rw [add_block] at hg
      refine .inr ⟨g, o, cap, by rw [hL], hg, fun j hj => ?_⟩
      rw [hL] at hj
      have hadd : ∀ k, ((⟨g, o, none⟩ : Addr).add k) = ⟨g, o + k, none⟩ := fun k => by unfold Addr.add; split <;> simp_all
      have := (key j hj).choose_spec
      have e : ((List.range len).map f).getD j false = (key j hj).choose := by rw [← hf j hj]; simp [List.getD_eq_getElem?_getD, hj]
      rw [e]
      obtain ⟨E, hE⟩ : ∃ E, E = (key j hj).choose := ⟨_, rfl⟩
      rw [← hE] at this ⊢
      rw [hadd] at this
      exact this
theorem own_of {H : Type} {enc : TypeId × Value → H} {W : World} {a : Option Addr} {len cap : Nat} {d : DataW H} {p : List MemPlace}
    (h : DataW.Trod enc Try.prog W 0 (fun _ => true) true 26 (.slice a len cap) d p) : ∃ L : List Int, RdI W (.slice a len cap) W.heap.size L ∧ L.length ≤ 9223372036854775807 := by
  obtain ⟨fuel, hf⟩ := h
  obtain ⟨A, L, c, e, hR, hl⟩ := rdi_trod hf
  have e' : Value.slice a len cap = .slice A L.length c := by simpa [Value.cells] using e
  rw [e']
  exact ⟨L, hR, hl⟩
end
section
open Go.ChangeShapes Go.WideShapes Go.ChangeAt Go.RowKit Go.Joins
set_option linter.unusedVariables false
theorem reachAway_own : ownKnob Try.prog.godebug = none := by kernel_rfl
set_option maxRecDepth 100000 in
theorem reachAway_lifted (os : Os) (started : os.Started) (H : Type) (enc : TypeId × Value → H) :
    ReturnsInHanded {} Try.checked os 3 .any (Rows.reachAwaySpec.pre6 enc Try.prog Try.f3 Rows.reachAwayRow.domain false) (Rows.reachAwaySpec.post enc Try.prog Try.f3 false true false false) := by
  refine returnsInHanded_of_change_sized (C := Try.checked) reachAway_own started (by kernel_rfl) Try.func3
    (ChangeSpec.witness6 (enc := enc) (C := Try.checked) false ⟨#[], #[.slice none 0 0, .slice none 0 0, .int .i64 0], []⟩ 8 (by kernel_rfl) (by kernel_rfl) (by kernel_rfl) (by kernel_rfl)) ?_
  intro W base args ds gs before hval0 hW hcnd hsz0 _
  have hval : ∀ (j : Nat) t v, Try.f3.params[j]? = some t → args[j]? = some v → Value.okWide Try.prog W .any base t v := hval0
  have hW' := hW
  obtain ⟨p, q, hA0, hV, rfl, hfz, hnd⟩ := hW
  have hA : DataW.TrodAll enc Try.prog W 0 (fun _ => true) true Try.f3.params.toList args.toList ds p := hA0
  rw [Try.params3] at hA hval
  obtain ⟨v0, vs0, d0, ds0, p0, q0, hargs0, rfl, rfl, h0, r0⟩ := trodAll_cons hA
  obtain ⟨v1, vs1, d1, ds1, p1, q1, hargs1, rfl, rfl, h1, r1⟩ := trodAll_cons r0
  obtain ⟨v2, vs2, d2, ds2, p2, q2, hargs2, rfl, rfl, h2, r2⟩ := trodAll_cons r1
  obtain ⟨rfl, rfl, rfl⟩ := trodAll_nil r2
  obtain rfl : args = #[v0, v1, v2] := by cases args; simp_all
  obtain ⟨rfl, rfl⟩ := trodVars_none hV
  have k0 := h0
  have lt0 : ∀ x ∈ p0, x.block < W.heap.size := by obtain ⟨m, hm⟩ := k0; exact DataW.trod_lt m _ _ _ hm
  obtain ⟨a0, len0, cap0, rfl⟩ := okWide_slice Try.underlying22 (hval 0 22 v0 rfl rfl)
  obtain ⟨L0, i0, l0, m0⟩ := lists_of h0
  have k1 := h1
  have lt1 : ∀ x ∈ p1, x.block < W.heap.size := by obtain ⟨m, hm⟩ := k1; exact DataW.trod_lt m _ _ _ hm
  obtain ⟨a1, len1, cap1, rfl⟩ := okWide_slice Try.underlying23 (hval 1 23 v1 rfl rfl)
  obtain ⟨L1, i1, l1⟩ := bools_of h1
  obtain ⟨a2, rfl, rfl, rfl, w2⟩ := open_int Try.underlying3 (hval 2 3 v2 rfl rfl) h2
  obtain ⟨b2, c2⟩ := wf_i64 w2
  clear hA0 hval0 hsz0
  refine (reachAway_walk _ _ L0 L1 a2 W i0 i1 l1 l0 m0).mono fun e W' ⟨he, bel⟩ => ?_
  subst he
  exact ⟨_, rfl, _, _, _, [], _, [], hW', trodAll_mk1 (shut_bool Try.underlying4 _), (trodAll_cons_mk (Below.trod laidOut (by kernel_rfl) (of_decide_eq_true (by kernel_rfl)) k0 bel lt0) (trodAll_cons_mk (Below.trod laidOut (by kernel_rfl) (of_decide_eq_true (by kernel_rfl)) k1 bel lt1) (trodAll_cons_mk (shut_int Try.underlying3 w2) trodAll_mk0))), rfl, bel.frame _, fun h => by cases h⟩
set_option maxRecDepth 100000 in
theorem reachAway_holds : Rows.ReachAwaySaid :=
  OpenClaim.holds_of_wide 3 Try.f3 rfl rfl rfl rfl rfl rfl rfl ⟨rfl, rfl, rfl, rfl, rfl⟩ rfl rfl rfl rfl rfl (by kernel_rfl) Try.func3 (by kernel_rfl)
    (of_decide_eq_true (by kernel_rfl)) (by unfold Func.isWrapper; first | (rw [if_pos (by decide +kernel)]; kernel_rfl) | (rw [if_neg (by decide +kernel)]; exact ⟨rfl, rfl⟩))
    (fun os started H enc _ => reachAway_lifted os started H enc)
#print axioms reachAway_holds
end
end Go.Proofs.Ytbnnbhblfclomaa
