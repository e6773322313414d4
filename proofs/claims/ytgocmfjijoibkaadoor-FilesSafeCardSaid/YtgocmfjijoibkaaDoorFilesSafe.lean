/- For all acts before and behind, and every text, the law FilesSafe answers true: a file that was written and made sure is there behind whatever is done to others, and whatever crash. Condition: errors.errorType reads as the program's text lays it (the card ties it). -/
import Derived.Test.YtgocmfjijoibkaaDoorLaid
import Derived.Test.YtgocmfjijoibkaaDoorCards
import Derived.Test.YtgocmfjijoibkaaDoorTie
import Derived.SevenTiedAt
import Derived.ProofKit
import Derived.OpenShut
import Derived.ShutString
import Derived.ChangeMaps5
import Derived.ChangeOld
import Derived.SizedLaws
import Derived.Lib.SmallJoins
import Derived.Test.YtgocmfjijoibkaaDoorR12
import Derived.Test.YtgocmfjijoibkaaDoorFlat
namespace Go.Proofs.YtgocmfjijoibkaaDoor
section
open Go.ChangeShapes Go.WideShapes Go.ChangeAt Go.RowKit Go.Joins
set_option linter.unusedVariables false
theorem one_str {H : Type} {enc : TypeId × Value → H} {P : Program} {w : World} {base : Nat} {spare : Nat → Bool} {held : Bool} {n : Nat} {cs : List Value} {o c : Nat} {ty : TypeId} (hu : P.underlying ty = some .string) (hc : c = 1)
    (h : ∃ y, DataW.trod enc P w base spare held n ty ((cs.drop o).take c) = some y) : ∃ s : ByteArray, cs[o]? = some (.string s) ∧ s.size ≤ maxLen := by
  obtain ⟨y, hy⟩ := h
  subst hc
  obtain ⟨s, e, _, hsz⟩ := DataW.trod_string hu hy
  exact ⟨s, one_of e, hsz⟩
set_option maxRecDepth 100000 in
theorem acts_of {H : Type} {enc : TypeId × Value → H} {W : World} {a : Option Addr} {len cap : Nat} {d : DataW H} {p : List MemPlace}
    (h : DataW.Trod enc Tryd.prog W 0 (fun _ => true) true 37 (.slice a len cap) d p) : ∃ L : List Ac, RdA W (.slice a len cap) W.heap.size L ∧ L.length ≤ 9223372036854775807 ∧ ∀ a, a ∈ L → AcOk a := by
  obtain ⟨fuel, hf⟩ := h
  have c26 : Tryd.prog.cellsOf 43 = 6 := by kernel_rfl
  rcases DataW.trod_slice Tryd.underlying37 hf with ⟨hcs, _⟩ | ⟨x, l, c, elems, rest, n, rfl, hcs, hx, hb, hl, hm, he, hel, _⟩
  · simp [Value.cells] at hcs
    obtain ⟨rfl, rfl, rfl⟩ := hcs
    exact ⟨[], .inl ⟨none, 0, rfl, fun _ => rfl, rfl⟩, by simp, fun a ha => by cases ha⟩
  · simp [Value.cells] at hcs
    obtain ⟨rfl, rfl, rfl⟩ := hcs
    unfold maxLen at hm
    have key : ∀ j, j < len → ∃ e : Ac, W.cell? (x.add (j * 6)) = some (.int .i64 e.kind) ∧ W.cell? ⟨(x.add (j * 6)).block, (x.add (j * 6)).off + 1, none⟩ = some (.string e.name) ∧ W.cell? ⟨(x.add (j * 6)).block, (x.add (j * 6)).off + 2, none⟩ = some (.string e.dst) ∧ W.cell? ⟨(x.add (j * 6)).block, (x.add (j * 6)).off + 3, none⟩ = some (.string e.b) ∧ W.cell? ⟨(x.add (j * 6)).block, (x.add (j * 6)).off + 4, none⟩ = some (.int .i64 e.steps) ∧ W.cell? ⟨(x.add (j * 6)).block, (x.add (j * 6)).off + 5, none⟩ = some (.int .i64 e.part) ∧ AcOk e := by
      intro j hj
      have hj' : j < elems.length := by omega
      have h1 := hel j hj
      rw [c26, List.getElem?_eq_getElem hj', Option.bind_eq_some_iff] at h1
      obtain ⟨cs, h2, h3⟩ := h1
      obtain ⟨_, hlen, hcell⟩ := World.cells?_some h2
      obtain ⟨ys, m, _, _, _, hl4, hy⟩ := DataW.trod_struct Tryd.underlying43 h3
      match cs, hlen with
      | [u0, u1, u2, u3, u4, u5], _ =>
        have hys : ys.length = 6 := hl4
        have y0 := hy 0 _ rfl
        have y1 := hy 1 _ rfl
        have y2 := hy 2 _ rfl
        have y3 := hy 3 _ rfl
        have y4 := hy 4 _ rfl
        have y5 := hy 5 _ rfl
        rw [List.getElem?_eq_getElem (by omega)] at y0 y1 y2 y3 y4 y5
        obtain ⟨a0, e0, w0⟩ := one_int Tryd.underlying3 (by kernel_rfl) ⟨_, y0⟩
        obtain ⟨a1, e1, w1⟩ := one_str Tryd.underlying9 (by kernel_rfl) ⟨_, y1⟩
        obtain ⟨a2, e2, w2⟩ := one_str Tryd.underlying9 (by kernel_rfl) ⟨_, y2⟩
        obtain ⟨a3, e3, w3⟩ := one_str Tryd.underlying9 (by kernel_rfl) ⟨_, y3⟩
        obtain ⟨a4, e4, w4⟩ := one_int Tryd.underlying3 (by kernel_rfl) ⟨_, y4⟩
        obtain ⟨a5, e5, w5⟩ := one_int Tryd.underlying3 (by kernel_rfl) ⟨_, y5⟩
        simp at e0 e1 e2 e3 e4 e5
        subst e0 e1 e2 e3 e4 e5
        have g : ∀ k, k < 6 → W.cell? ((x.add (j * 6)).add k) = [Value.int .i64 a0, .string a1, .string a2, .string a3, .int .i64 a4, .int .i64 a5][k]? := fun k hk => by
          rw [hcell k (by simpa using hk)]
        have ad : ∀ k, 0 < k → (x.add (j * 6)).add k = ⟨(x.add (j * 6)).block, (x.add (j * 6)).off + k, none⟩ := fun k hk => by rw [Addr.add, if_neg (by omega)]
        have a0' : (x.add (j * 6)).add 0 = x.add (j * 6) := by unfold Addr.add; simp
        have g0 := g 0 (by omega)
        rw [a0'] at g0
        exact ⟨⟨a0, a1, a2, a3, a4, a5⟩, g0, by rw [← ad 1 (by omega)]; exact g 1 (by omega), by rw [← ad 2 (by omega)]; exact g 2 (by omega), by rw [← ad 3 (by omega)]; exact g 3 (by omega), by rw [← ad 4 (by omega)]; exact g 4 (by omega), by rw [← ad 5 (by omega)]; exact g 5 (by omega), ⟨by unfold maxLen at w1; exact w1, by unfold maxLen at w2; exact w2, by unfold maxLen at w3; exact w3, wf_i64 w4, wf_i64 w5⟩⟩
    classical
    let f : Nat → Ac := fun j => if hj : j < len then (key j hj).choose else ac0
    have hf : ∀ j (hj : j < len), f j = (key j hj).choose := fun j hj => by simp only [f, dif_pos hj]
    have hL : ((List.range len).map f).length = len := by simp
    refine ⟨(List.range len).map f, ?_, by rw [hL]; omega, fun a ha => by
      obtain ⟨j, hj, rfl⟩ := List.mem_map.1 ha
      have hj' := List.mem_range.1 hj
      rw [hf j hj']
      exact (key j hj').choose_spec.2.2.2.2.2.2⟩
    by_cases h0 : len = 0
    · subst h0; exact .inl ⟨some x, cap, rfl, (fun h => by cases h), by simp⟩
    · obtain ⟨g, o, s⟩ := x
      have h00 := (key 0 (by omega)).choose_spec.1
      have hs : s = none := by simpa [Addr.add] using World.cell?_spot h00
      subst hs
      have hg := World.block_lt_of_cell? W _ h00
      rw [add_block] at hg
      refine .inr ⟨g, o, cap, by rw [hL], hg, fun j hj => ?_⟩
      rw [hL] at hj
      have hadd : ∀ k, ((⟨g, o, none⟩ : Addr).add k) = ⟨g, o + k, none⟩ := fun k => by unfold Addr.add; split <;> simp_all
      have := (key j hj).choose_spec
      have e : ((List.range len).map f).getD j ac0 = (key j hj).choose := by rw [← hf j hj]; simp [List.getD_eq_getElem?_getD, hj]
      rw [e]
      obtain ⟨E, hE⟩ : ∃ E, E = (key j hj).choose := ⟨_, rfl⟩
      rw [← hE] at this ⊢
      rw [hadd] at this
      exact ⟨this.1, this.2.1, this.2.2.1, this.2.2.2.1, this.2.2.2.2.1, this.2.2.2.2.2.1⟩
end
section
open Go.ChangeShapes Go.WideShapes Go.ChangeAt Go.RowKit Go.Joins
set_option linter.unusedVariables false

set_option maxRecDepth 100000 in
theorem filesSafe_lifted (os : Os) (started : os.Started) (H : Type) (enc : TypeId × Value → H) :
    ReturnsInHanded {} Tryd.checked os 6 .any (fun w args => (Rows.filesSafeSpec.pre enc Tryd.prog Tryd.f6 [] false w args ∧ laidMetH Tryd.prog laidL w) ∧ sizedMet enc Tryd.prog Tryd.f6 (OpenSpec.ofChange Rows.filesSafeSpec) false w args)
      (Rows.filesSafeSpec.post enc Tryd.prog Tryd.f6 false true false false) := by
  refine returnsInHanded_of_change_and (C := Tryd.checked) (X := fun w _ => laidMetH Tryd.prog laidL w) (fun _ _ _ hh h => h.of_heap hh) Tryd.own started (by kernel_rfl) Tryd.func6
    (ChangeSpec.witness_at (enc := enc) (C := Tryd.checked) (os := os) (X := fun w _ => laidMetH Tryd.prog laidL w) false (laidWorld os) #[.slice none 0 0, .slice none 0 0, .string ByteArray.empty] 8 rfl (by kernel_rfl) (by kernel_rfl) (by kernel_rfl) (by kernel_rfl) (by kernel_rfl) (laidWorld_met os _)) ?_
  intro W base args ds gs before hval0 hW _ _ hL hsz0
  have hval : ∀ (j : Nat) t v, Tryd.f6.params[j]? = some t → args[j]? = some v → Value.okWide Tryd.prog W .any base t v := hval0
  have hW' := hW
  obtain ⟨p, q, hA0, hV0, rfl, hfz, hnd⟩ := hW
  have hA : DataW.TrodAll enc Tryd.prog W 0 (fun _ => true) true Tryd.f6.params.toList args.toList ds p := hA0
  have hV : DataW.TrodVars enc Tryd.prog W (fun _ => true) [] gs q := hV0
  rw [Tryd.params6] at hA hval
  obtain ⟨v0, vs0, d0, ds0, p0, q0, hargs0, rfl, rfl, h0, r0⟩ := trodAll_cons hA
  obtain ⟨v1, vs1, d1, ds1, p1, q1, hargs1, rfl, rfl, h1, r1⟩ := trodAll_cons r0
  obtain ⟨v2, vs2, d2, ds2, p2, q2, hargs2, rfl, rfl, h2, r2⟩ := trodAll_cons r1
  obtain ⟨rfl, rfl, rfl⟩ := trodAll_nil r2
  obtain rfl : args = #[v0, v1, v2] := by cases args; simp_all
  have hg := handle_of_laid hL
  obtain ⟨rfl, rfl⟩ : gs = [] ∧ q = [] := by
    cases gs with
    | nil => exact ⟨rfl, hV⟩
    | cons g r => exact absurd hV (by intro h; cases h)
  have k0 := h0
  have lt0 : ∀ x ∈ p0, x.block < W.heap.size := by obtain ⟨m, hm⟩ := k0; exact DataW.trod_lt m _ _ _ hm
  obtain ⟨a0, len0, cap0, rfl⟩ := okWide_slice Tryd.underlying37 (hval 0 37 v0 rfl rfl)
  obtain ⟨L0, i0, l0, o0⟩ := acts_of h0
  have k1 := h1
  have lt1 : ∀ x ∈ p1, x.block < W.heap.size := by obtain ⟨m, hm⟩ := k1; exact DataW.trod_lt m _ _ _ hm
  obtain ⟨a1, len1, cap1, rfl⟩ := okWide_slice Tryd.underlying37 (hval 1 37 v1 rfl rfl)
  obtain ⟨L1, i1, l1, o1⟩ := acts_of h1
  have k2 := h2
  have lt2 : ∀ x ∈ p2, x.block < W.heap.size := by obtain ⟨m, hm⟩ := k2; exact DataW.trod_lt m _ _ _ hm
  obtain ⟨s2, rfl, e2, _, ws2⟩ := Go.ChangeMaps.open_string Tryd.underlying9 (hval 2 9 v2 rfl rfl) h2
  unfold maxLen at ws2
  clear hA0 hval0 hsz0
  refine (filesSafe_walk _ _ L0 L1 s2 W hg i0 i1 l0 l1 o0 o1 (by omega)).mono fun e W' ⟨he, bel⟩ => ?_
  subst he
  exact ⟨_, rfl, _, _, _, [], _, [], hW', trodAll_mk1 (shut_bool Tryd.underlying4 _), (trodAll_cons_mk (Below.trod laidOut (by kernel_rfl) (of_decide_eq_true (by kernel_rfl)) k0 bel lt0) (trodAll_cons_mk (Below.trod laidOut (by kernel_rfl) (of_decide_eq_true (by kernel_rfl)) k1 bel lt1) (trodAll_cons_mk (Below.trod laidOut (by kernel_rfl) (of_decide_eq_true (by kernel_rfl)) k2 bel lt2) trodAll_mk0))), rfl, bel.frame _, fun h => by cases h⟩
set_option maxRecDepth 100000 in
theorem filesSafe_row : Rows.FilesSafeSaid :=
  OpenClaim.holds_of_wide 6 Tryd.f6 rfl rfl rfl rfl rfl rfl rfl ⟨rfl, rfl, rfl, rfl, rfl⟩ rfl rfl rfl rfl rfl (by kernel_rfl) Tryd.func6 (by kernel_rfl)
    (of_decide_eq_true (by kernel_rfl)) (by unfold Func.isWrapper; first | (rw [if_pos (by decide +kernel)]; kernel_rfl) | (rw [if_neg (by decide +kernel)]; exact ⟨rfl, rfl⟩))
    (fun os started H enc _ => filesSafe_lifted os started H enc)
set_option maxRecDepth 100000 in
theorem filesSafe_holds : Rows.FilesSafeCardSaid :=
  Claim7.holds_tied_plain_at .later [] [.handle] true _ true
    filesSafe_row (fun _ h => by cases h) (by kernel_rfl) (fun _ h => by cases h) filesSafe_row_tie rfl ⟨rfl, rfl⟩ (by kernel_rfl) rfl
    (fun f fn hf hfn => by
      obtain rfl : f = 6 := Option.some.inj ((show Tryd.prog.funcNamed "belvedere/belvederelaw03.FilesSafe" = some 6 by kernel_rfl).symm.trans hf) |>.symm
      obtain rfl : fn = Tryd.f6 := (Option.some.inj (Tryd.func6.symm.trans hfn)).symm
      exact ⟨by kernel_rfl, fun j t ht => by
        rw [Tryd.params6] at ht
        have h3 : t = 9 ∨ t = 37 := by
          rcases j with _ | _ | _ | j
          · simp at ht; subst ht; simp
          · simp at ht; subst ht; simp
          · simp at ht; subst ht; simp
          · simp at ht
        rcases h3 with rfl | rfl
        all_goals first | exact (show Tryd.prog.wantsStandIn 9 = false by kernel_rfl) | exact (show Tryd.prog.wantsStandIn 37 = false by kernel_rfl)⟩)
    (by kernel_rfl)
#print axioms filesSafe_holds
end
end Go.Proofs.YtgocmfjijoibkaaDoor
