/- For every list of three numbers each, the law QueuePops answers true: all events that were laid come out, each once, one not due ahead of the one that came ahead of it. No condition. -/
import Derived.Test.YtfbbkeekpkbjhaaOpen
import Derived.Test.YtfbbkeekpkbjhaaPopsWalk
namespace Go.Proofs.Ytfbbkeekpkbjhaa
section
open Go.RowKit
end
section
open Go.ChangeShapes Go.WideShapes Go.ChangeAt Go.RowKit Go.Joins
theorem trips_of {H : Type} {enc : TypeId × Value → H} {W : World} {a : Option Addr} {len cap : Nat} {d : DataW H} {p : List MemPlace}
    (h : DataW.Trod enc Try.prog W 0 (fun _ => true) true 22 (.slice a len cap) d p) : ∃ xs ys zs, Trip W a len xs ys zs := by
  obtain ⟨fuel, hf⟩ := h
  have c29 : Try.prog.cellsOf 29 = 3 := by kernel_rfl
  have c3 : Try.prog.cellsOf 3 = 1 := by kernel_rfl
  rcases DataW.trod_slice Try.underlying22 hf with ⟨hcs, _⟩ | ⟨x, l, c, elems, rest, n, rfl, hcs, hx, hb, hl, hm, he, hel, _⟩
  · simp [Value.cells] at hcs
    obtain ⟨rfl, rfl, rfl⟩ := hcs
    exact ⟨fun _ => 0, fun _ => 0, fun _ => 0, by omega, fun h => by omega⟩
  · simp [Value.cells] at hcs
    obtain ⟨rfl, rfl, rfl⟩ := hcs
    unfold maxLen at hm
    have key : ∀ j, j < len → ∃ u v t : Int, W.cell? (x.add (j * 3)) = some (.int .i64 u) ∧ W.cell? ⟨(x.add (j * 3)).block, (x.add (j * 3)).off + 1, none⟩ = some (.int .i64 v) ∧ W.cell? ⟨(x.add (j * 3)).block, (x.add (j * 3)).off + 2, none⟩ = some (.int .i64 t) := by
      intro j hj
      have hj' : j < elems.length := by omega
      have h1 := hel j hj
      rw [c29, List.getElem?_eq_getElem hj', Option.bind_eq_some_iff] at h1
      obtain ⟨cs, h2, h3⟩ := h1
      obtain ⟨_, hlen, hcell⟩ := World.cells?_some h2
      obtain ⟨ys, m, rfl, _, _, _, hy⟩ := DataW.trod_array Try.underlying29 h3
      have e0 := hcell 0 (by omega)
      have e1 := hcell 1 (by omega)
      have e2 := hcell 2 (by omega)
      match cs, hlen with
      | [u, v, t], _ =>
        have y0 := hy 0 (by omega)
        have y1 := hy 1 (by omega)
        have y2 := hy 2 (by omega)
        simp only [c3] at y0 y1 y2
        have hys : ys.length = 3 := by assumption
        rw [List.getElem?_eq_getElem (by omega)] at y0 y1 y2
        obtain ⟨u', eu, _⟩ := DataW.trod_int Try.underlying3 y0
        obtain ⟨v', ev, _⟩ := DataW.trod_int Try.underlying3 y1
        obtain ⟨t', et, _⟩ := DataW.trod_int Try.underlying3 y2
        simp at eu ev et
        subst eu ev et
        have a0 : (x.add (j * 3)).add 0 = x.add (j * 3) := by unfold Addr.add; simp
        have a1 : (x.add (j * 3)).add 1 = ⟨(x.add (j * 3)).block, (x.add (j * 3)).off + 1, none⟩ := by rw [Addr.add, if_neg (by decide)]
        have a2 : (x.add (j * 3)).add 2 = ⟨(x.add (j * 3)).block, (x.add (j * 3)).off + 2, none⟩ := by rw [Addr.add, if_neg (by decide)]
        rw [a0] at e0
        rw [a1] at e1
        rw [a2] at e2
        exact ⟨u', v', t', e0, e1, e2⟩
    classical
    refine ⟨fun j => if hj : j < len then (key j hj).choose else 0, fun j => if hj : j < len then (key j hj).choose_spec.choose else 0, fun j => if hj : j < len then (key j hj).choose_spec.choose_spec.choose else 0, by omega, fun h0 => ⟨x, rfl, ?_, fun j hj => ?_⟩⟩
    · obtain ⟨u, v, t, h1, _⟩ := key 0 h0
      have := World.block_lt_of_cell? W _ h1
      simpa [add_block] using this
    · simp only [dif_pos hj]
      exact (key j hj).choose_spec.choose_spec.choose_spec
end
section
open Go.ChangeShapes Go.WideShapes Go.ChangeAt Go.RowKit Go.Joins
set_option linter.unusedVariables false
theorem queuePops_own : ownKnob Try.prog.godebug = none := by kernel_rfl
set_option maxRecDepth 100000 in
theorem queuePops_lifted (os : Os) (started : os.Started) (H : Type) (enc : TypeId × Value → H) :
    ReturnsInHanded {} Try.checked os 3 .any (Rows.queuePopsSpec.pre6 enc Try.prog Try.f3 Rows.queuePopsRow.domain false) (Rows.queuePopsSpec.post enc Try.prog Try.f3 false true false false) := by
  refine returnsInHanded_of_change_sized (C := Try.checked) queuePops_own started (by kernel_rfl) Try.func3
    (ChangeSpec.witness6 (enc := enc) (C := Try.checked) false ⟨#[], #[.slice none 0 0], []⟩ 8 (by kernel_rfl) (by kernel_rfl) (by kernel_rfl) (by kernel_rfl)) ?_
  intro W base args ds gs before hval0 hW hcnd hsz0 _
  have hval : ∀ (j : Nat) t v, Try.f3.params[j]? = some t → args[j]? = some v → Value.okWide Try.prog W .any base t v := hval0
  have hW' := hW
  obtain ⟨p, q, hA0, hV, rfl, hfz, hnd⟩ := hW
  have hA : DataW.TrodAll enc Try.prog W 0 (fun _ => true) true Try.f3.params.toList args.toList ds p := hA0
  rw [Try.params3] at hA hval
  obtain ⟨v0, vs0, d0, ds0, p0, q0, hargs0, rfl, rfl, h0, r0⟩ := trodAll_cons hA
  obtain ⟨rfl, rfl, rfl⟩ := trodAll_nil r0
  obtain rfl : args = #[v0] := by cases args; simp_all
  obtain ⟨rfl, rfl⟩ := trodVars_none hV
  have k0 := h0
  have lt0 : ∀ x ∈ p0, x.block < W.heap.size := by obtain ⟨m, hm⟩ := k0; exact DataW.trod_lt m _ _ _ hm
  obtain ⟨a0, len0, cap0, rfl⟩ := okWide_slice Try.underlying22 (hval 0 22 v0 rfl rfl)
  obtain ⟨x0, y0, z0, i0⟩ := trips_of h0
  clear hA0 hval0 hsz0
  refine (pops_walk a0 len0 cap0 x0 y0 z0 W i0).mono fun e W' ⟨he, bel⟩ => ?_
  subst he
  exact ⟨_, rfl, _, _, _, [], _, [], hW', trodAll_mk1 (shut_bool Try.underlying4 _), (trodAll_cons_mk (Below.trod laidOut (by kernel_rfl) (of_decide_eq_true (by kernel_rfl)) k0 bel lt0) trodAll_mk0), rfl, bel.frame _, fun h => by cases h⟩
theorem queuePops_holds : Rows.QueuePopsSaid :=
  OpenClaim.holds_of_wide 3 Try.f3 rfl rfl rfl rfl rfl rfl rfl ⟨rfl, rfl, rfl, rfl, rfl⟩ rfl rfl rfl rfl rfl (by kernel_rfl) Try.func3 (by kernel_rfl)
    (of_decide_eq_true (by kernel_rfl)) (by unfold Func.isWrapper; first | (rw [if_pos (by decide +kernel)]; kernel_rfl) | (rw [if_neg (by decide +kernel)]; exact ⟨rfl, rfl⟩))
    (fun os started H enc _ => queuePops_lifted os started H enc)
#print axioms queuePops_holds
end
end Go.Proofs.Ytfbbkeekpkbjhaa
