/- For all contacts of an object, all escalations and every question, the law NotifyChooses answers true: the contacts for any notification, by any escalations, and in how many seconds there is another one, are the document's. Condition: notify.words reads as the program's text lays it (the card ties it). -/
import Derived.Test.YtjffciejoahegaaDoorLaid
import Derived.Test.YtjffciejoahegaaDoorCards
import Derived.Test.YtjffciejoahegaaDoorTie
import Derived.SevenTiedAt
import Derived.LaidMore
import Derived.ProofKit
import Derived.OpenShut
import Derived.ShutString
import Derived.ChangeOld
import Derived.SizedLaws
import Derived.Lib.SmallJoins
import Derived.Test.YtjffciejoahegaaDoorG5
import Derived.Test.YtjffciejoahegaaDoorFlat
namespace Go.Proofs.YtjffciejoahegaaDoor
section
open Go.ChangeShapes Go.WideShapes Go.ChangeAt Go.RowKit Go.Joins
set_option linter.unusedVariables false
theorem rdi_trod {H : Type} {enc : TypeId × Value → H} {W : World} {n : Nat} {cs : List Value} {y : DataW H × List MemPlace}
    (h : DataW.trod enc Tryd.prog W 0 (fun _ => true) true n 41 cs = some y) : ∃ A L cap, cs = [.slice A L.length cap] ∧ RdI W (.slice A L.length cap) W.heap.size L ∧ L.length ≤ 9223372036854775807 := by
  have c3 : Tryd.prog.cellsOf 3 = 1 := by kernel_rfl
  rcases DataW.trod_slice Tryd.underlying41 h with ⟨hcs, _⟩ | ⟨x, l, c, elems, rest, n, rfl, hcs, hx, hb, hl, hm, he, hel, _⟩
  · exact ⟨none, [], 0, hcs, .inl ⟨none, 0, rfl, fun _ => rfl, rfl⟩, by simp⟩
  · unfold maxLen at hm
    have key : ∀ j, j < l → ∃ u : Int, W.cell? (x.add j) = some (.int .i64 u) := by
      intro j hj
      have hj' : j < elems.length := by omega
      have h1 := hel j hj
      rw [c3, Nat.mul_one, List.getElem?_eq_getElem hj', Option.bind_eq_some_iff] at h1
      obtain ⟨cs', h2, h3⟩ := h1
      obtain ⟨_, hlen, hcell⟩ := World.cells?_some h2
      obtain ⟨a, e, _, _⟩ := DataW.trod_int Tryd.underlying3 h3
      have e0 := hcell 0 (by omega)
      have a0 : (x.add j).add 0 = x.add j := by unfold Addr.add; simp
      rw [a0] at e0
      subst e
      exact ⟨a, e0⟩
    classical
    let f : Nat → Int := fun j => if hj : j < l then (key j hj).choose else 0
    have hf : ∀ j, j < l → W.cell? (x.add j) = some (.int .i64 (f j)) := fun j hj => by simp only [f, dif_pos hj]; exact (key j hj).choose_spec
    have hL : ((List.range l).map f).length = l := by simp
    refine ⟨some x, (List.range l).map f, c, by rw [hL]; exact hcs, ?_, by rw [hL]; omega⟩
    by_cases h0 : l = 0
    · subst h0; exact .inl ⟨some x, c, by simp, (fun h => by cases h), by simp⟩
    · obtain ⟨g, o, s⟩ := x
      have hs : s = none := by simpa [Addr.add] using World.cell?_spot (hf 0 (by omega))
      subst hs
      have hg := World.block_lt_of_cell? W _ (hf 0 (by omega))
      rw [add_block] at hg
      refine .inr ⟨g, o, c, by rw [hL], hg, fun j hj => ?_⟩
      rw [hL] at hj
      have hadd : ((⟨g, o, none⟩ : Addr).add j) = ⟨g, o + j, none⟩ := by unfold Addr.add; split <;> simp_all
      have := hf j hj
      rw [hadd] at this
      rw [this]
      simp [List.getD_eq_getElem?_getD, hj]
theorem rdi_one {H : Type} {enc : TypeId × Value → H} {W : World} {n : Nat} {cs : List Value} {o c : Nat} (hc : c = 1)
    (h : ∃ y, DataW.trod enc Tryd.prog W 0 (fun _ => true) true n 41 ((cs.drop o).take c) = some y) : ∃ A L cap, cs[o]? = some (.slice A L.length cap) ∧ RdI W (.slice A L.length cap) W.heap.size L ∧ L.length ≤ 9223372036854775807 := by
  obtain ⟨y, hy⟩ := h
  subst hc
  obtain ⟨A, L, cap, e, hR, hl⟩ := rdi_trod hy
  exact ⟨A, L, cap, one_of e, hR, hl⟩
set_option maxRecDepth 100000 in
theorem escs_of {H : Type} {enc : TypeId × Value → H} {W : World} {a : Option Addr} {len cap : Nat} {d : DataW H} {p : List MemPlace}
    (h : DataW.Trod enc Tryd.prog W 0 (fun _ => true) true 42 (.slice a len cap) d p) : ∃ L : List Es, RdX W (.slice a len cap) W.heap.size L ∧ (∀ e ∈ L, RdI W (.slice e.a e.c.length e.cap) W.heap.size e.c) ∧ (∀ e ∈ L, e.c.length ≤ 9223372036854775807) ∧ L.length ≤ 9223372036854775807 := by
  obtain ⟨fuel, hf⟩ := h
  have c46 : Tryd.prog.cellsOf 46 = 5 := by kernel_rfl
  have c3 : Tryd.prog.cellsOf 3 = 1 := by kernel_rfl
  have c41 : Tryd.prog.cellsOf 41 = 1 := by kernel_rfl
  rcases DataW.trod_slice Tryd.underlying42 hf with ⟨hcs, _⟩ | ⟨x, l, c, elems, rest, n, rfl, hcs, hx, hb, hl, hm, he, hel, _⟩
  · simp [Value.cells] at hcs
    obtain ⟨rfl, rfl, rfl⟩ := hcs
    exact ⟨[], .inl ⟨none, 0, rfl, fun _ => rfl, rfl⟩, by simp, by simp, by simp⟩
  · simp [Value.cells] at hcs
    obtain ⟨rfl, rfl, rfl⟩ := hcs
    unfold maxLen at hm
    have key : ∀ j, j < len → ∃ e : Es, (W.cell? (x.add (j * 5)) = some (.int .i64 e.o) ∧ W.cell? ⟨(x.add (j * 5)).block, (x.add (j * 5)).off + 1, none⟩ = some (.int .i64 e.f) ∧ W.cell? ⟨(x.add (j * 5)).block, (x.add (j * 5)).off + 2, none⟩ = some (.int .i64 e.l) ∧ W.cell? ⟨(x.add (j * 5)).block, (x.add (j * 5)).off + 3, none⟩ = some (.slice e.a e.c.length e.cap) ∧ W.cell? ⟨(x.add (j * 5)).block, (x.add (j * 5)).off + 4, none⟩ = some (.int .i64 e.r)) ∧ RdI W (.slice e.a e.c.length e.cap) W.heap.size e.c ∧ e.c.length ≤ 9223372036854775807 := by
      intro j hj
      have hj' : j < elems.length := by omega
      have h1 := hel j hj
      rw [c46, List.getElem?_eq_getElem hj', Option.bind_eq_some_iff] at h1
      obtain ⟨cs, h2, h3⟩ := h1
      obtain ⟨_, hlen, hcell⟩ := World.cells?_some h2
      obtain ⟨ys, m, _, _, _, hl4, hy⟩ := DataW.trod_struct Tryd.underlying46 h3
      have e0 := hcell 0 (by omega)
      have e1 := hcell 1 (by omega)
      have e2 := hcell 2 (by omega)
      have e3 := hcell 3 (by omega)
      have e4 := hcell 4 (by omega)
      match cs, hlen with
      | [u, v, t, s, r], _ =>
        have y0 := hy 0 _ rfl
        have y1 := hy 1 _ rfl
        have y2 := hy 2 _ rfl
        have y3 := hy 3 _ rfl
        have y4 := hy 4 _ rfl
        have hys : ys.length = 5 := hl4
        rw [List.getElem?_eq_getElem (by omega)] at y0 y1 y2 y3 y4
        obtain ⟨u', eu, _⟩ := one_int Tryd.underlying3 (by kernel_rfl) ⟨_, y0⟩
        obtain ⟨v', ev, _⟩ := one_int Tryd.underlying3 (by kernel_rfl) ⟨_, y1⟩
        obtain ⟨t', et, _⟩ := one_int Tryd.underlying3 (by kernel_rfl) ⟨_, y2⟩
        obtain ⟨A, C, cc, es, hR, hC⟩ := rdi_one (by kernel_rfl) ⟨_, y3⟩
        obtain ⟨r', er, _⟩ := one_int Tryd.underlying3 (by kernel_rfl) ⟨_, y4⟩
        simp at eu ev et es er
        subst eu ev et es er
        have a0 : (x.add (j * 5)).add 0 = x.add (j * 5) := by unfold Addr.add; simp
        have a1 : (x.add (j * 5)).add 1 = ⟨(x.add (j * 5)).block, (x.add (j * 5)).off + 1, none⟩ := by rw [Addr.add, if_neg (by decide)]
        have a2 : (x.add (j * 5)).add 2 = ⟨(x.add (j * 5)).block, (x.add (j * 5)).off + 2, none⟩ := by rw [Addr.add, if_neg (by decide)]
        have a3 : (x.add (j * 5)).add 3 = ⟨(x.add (j * 5)).block, (x.add (j * 5)).off + 3, none⟩ := by rw [Addr.add, if_neg (by decide)]
        have a4 : (x.add (j * 5)).add 4 = ⟨(x.add (j * 5)).block, (x.add (j * 5)).off + 4, none⟩ := by rw [Addr.add, if_neg (by decide)]
        rw [a0] at e0
        rw [a1] at e1
        rw [a2] at e2
        rw [a3] at e3
        rw [a4] at e4
        exact ⟨⟨u', v', t', A, C, cc, r'⟩, ⟨e0, e1, e2, e3, e4⟩, hR, hC⟩
    classical
    let f : Nat → Es := fun j => if hj : j < len then (key j hj).choose else es0
    have hf : ∀ j (hj : j < len), f j = (key j hj).choose := fun j hj => by simp only [f, dif_pos hj]
    have hL : ((List.range len).map f).length = len := by simp
    have hmem : ∀ e ∈ (List.range len).map f, RdI W (.slice e.a e.c.length e.cap) W.heap.size e.c ∧ e.c.length ≤ 9223372036854775807 := by
      intro e he
      obtain ⟨j, hj, rfl⟩ := List.mem_map.1 he
      have hj' : j < len := List.mem_range.1 hj
      rw [hf j hj']; exact (key j hj').choose_spec.2
    refine ⟨(List.range len).map f, ?_, fun e he => (hmem e he).1, fun e he => (hmem e he).2, by rw [hL]; omega⟩
    by_cases h0 : len = 0
    · subst h0; exact .inl ⟨some x, cap, rfl, (fun h => by cases h), by simp⟩
    · obtain ⟨g, o, s⟩ := x
      have h00 := (key 0 (by omega)).choose_spec.1.1
      have hs : s = none := by simpa [Addr.add] using World.cell?_spot h00
      subst hs
      have hg := World.block_lt_of_cell? W _ h00
      rw [add_block] at hg
      refine .inr ⟨g, o, cap, by rw [hL], hg, fun j hj => ?_⟩
      rw [hL] at hj
      have hadd : ∀ k, ((⟨g, o, none⟩ : Addr).add k) = ⟨g, o + k, none⟩ := fun k => by unfold Addr.add; split <;> simp_all
      have := (key j hj).choose_spec.1
      have e : ((List.range len).map f).getD j es0 = (key j hj).choose := by rw [← hf j hj]; simp [List.getD_eq_getElem?_getD, hj]
      rw [e]
      obtain ⟨E, hE⟩ : ∃ E, E = (key j hj).choose := ⟨_, rfl⟩
      rw [← hE] at this ⊢
      rw [hadd] at this
      exact this
theorem own_of {H : Type} {enc : TypeId × Value → H} {W : World} {a : Option Addr} {len cap : Nat} {d : DataW H} {p : List MemPlace}
    (h : DataW.Trod enc Tryd.prog W 0 (fun _ => true) true 41 (.slice a len cap) d p) : ∃ L : List Int, RdI W (.slice a len cap) W.heap.size L ∧ L.length ≤ 9223372036854775807 := by
  obtain ⟨fuel, hf⟩ := h
  obtain ⟨A, L, c, e, hR, hl⟩ := rdi_trod hf
  have e' : Value.slice a len cap = .slice A L.length c := by simpa [Value.cells] using e
  rw [e']
  exact ⟨L, hR, hl⟩
end
section
open Go.ChangeShapes Go.WideShapes Go.ChangeAt Go.RowKit Go.Joins
set_option linter.unusedVariables false

set_option maxRecDepth 100000 in
theorem notifyChooses_lifted (os : Os) (started : os.Started) (H : Type) (enc : TypeId × Value → H) :
    ReturnsInHanded {} Tryd.checked os 6 .any (fun w args => (Rows.notifyChoosesSpec.pre enc Tryd.prog Tryd.f6 [] false w args ∧ laidMetH Tryd.prog laidL w) ∧ sizedMet enc Tryd.prog Tryd.f6 (OpenSpec.ofChange Rows.notifyChoosesSpec) false w args)
      (Rows.notifyChoosesSpec.post enc Tryd.prog Tryd.f6 false true false false) := by
  refine returnsInHanded_of_change_and (C := Tryd.checked) (X := fun w _ => laidMetH Tryd.prog laidL w) (fun _ _ _ hh h => h.of_heap hh) Tryd.own started (by kernel_rfl) Tryd.func6
    (ChangeSpec.witness_shaped (enc := enc) (C := Tryd.checked) (os := os) (X := fun w _ => laidMetH Tryd.prog laidL w) false (World.doorLaid Tryd.prog 400 os) #[.slice none 0 0, .slice none 0 0, .agg #[.int .i64 0, .int .i64 0, .int .i64 0]] 8 rfl (World.shaped_of_RefB (by kernel_rfl) (by kernel_rfl)) (by kernel_rfl) (by kernel_rfl) (by kernel_rfl) (door_met os _)) ?_
  intro W base args ds gs before hval0 hW _ _ hL hsz0
  have hval : ∀ (j : Nat) t v, Tryd.f6.params[j]? = some t → args[j]? = some v → Value.okWide Tryd.prog W .any base t v := hval0
  have hW' := hW
  obtain ⟨p, q, hA0, hV0, rfl, hfz, hnd⟩ := hW
  have hA : DataW.TrodAll enc Tryd.prog W 0 (fun _ => true) true Tryd.f6.params.toList args.toList ds p := hA0
  have hV : DataW.TrodVars enc Tryd.prog W (fun _ => true) [] gs q := hV0
  rw [Tryd.params6] at hA hval
  obtain ⟨v0, vs0, d0, ds0, p0, q0, hargs0, rfl, rfl, h0, r0⟩ := trodAll_cons hA
  obtain ⟨v1, vs1, d1, ds1, p1, q1, hargs1, rfl, rfl, h1, r1⟩ := trodAll_cons r0
  obtain ⟨v2, vs2, d2, ds2, p2, q2, hargs2, rfl, rfl, h2, r2⟩ := trodAll_cons r1
  obtain ⟨rfl, rfl, rfl⟩ := trodAll_nil r2
  obtain rfl : args = #[v0, v1, v2] := by cases args; simp_all
  have hw := words_of_laid hL
  obtain ⟨rfl, rfl⟩ : gs = [] ∧ q = [] := by
    cases gs with
    | nil => exact ⟨rfl, hV⟩
    | cons g r => exact absurd hV (by intro h; cases h)
  have k0 := h0
  have lt0 : ∀ x ∈ p0, x.block < W.heap.size := by obtain ⟨m, hm⟩ := k0; exact DataW.trod_lt m _ _ _ hm
  obtain ⟨a0, len0, cap0, rfl⟩ := okWide_slice Tryd.underlying41 (hval 0 41 v0 rfl rfl)
  obtain ⟨L0, i0, l0⟩ := own_of h0
  have k1 := h1
  have lt1 : ∀ x ∈ p1, x.block < W.heap.size := by obtain ⟨m, hm⟩ := k1; exact DataW.trod_lt m _ _ _ hm
  obtain ⟨a1, len1, cap1, rfl⟩ := okWide_slice Tryd.underlying42 (hval 1 42 v1 rfl rfl)
  obtain ⟨L1, i1, c1, lc1, l1⟩ := escs_of h1
  have k2 := h2
  have lt2 : ∀ x ∈ p2, x.block < W.heap.size := by obtain ⟨m, hm⟩ := k2; exact DataW.trod_lt m _ _ _ hm
  obtain ⟨cs2, n2, rfl, sz2, F2⟩ := flat_struct Tryd.underlying44 (hval 2 44 v2 rfl rfl) h2
  obtain ⟨a2_0, e2_0, w2_0⟩ := one_int Tryd.underlying3 (by kernel_rfl) (F2 0 _ rfl)
  obtain ⟨b2_0, c2_0⟩ := wf_i64 w2_0
  obtain ⟨a2_1, e2_1, w2_1⟩ := one_int Tryd.underlying3 (by kernel_rfl) (F2 1 _ rfl)
  obtain ⟨b2_1, c2_1⟩ := wf_i64 w2_1
  obtain ⟨a2_2, e2_2, w2_2⟩ := one_int Tryd.underlying3 (by kernel_rfl) (F2 2 _ rfl)
  obtain ⟨b2_2, c2_2⟩ := wf_i64 w2_2
  obtain rfl : cs2 = #[.int .i64 a2_0, .int .i64 a2_1, .int .i64 a2_2] := arr_of (l := [.int .i64 a2_0, .int .i64 a2_1, .int .i64 a2_2]) (n := 3) (sz2.trans (by kernel_rfl)) rfl (by
    intro i hi
    rcases (by omega : i = 0 ∨ i = 1 ∨ i = 2) with rfl | rfl | rfl
    · exact e2_0
    · exact e2_1
    · exact e2_2)
  clear hA0 hval0 hsz0
  refine (chooses_walk _ _ L0 a2_0 a2_1 a2_2 L1 W hw i0 i1 c1 l0 l1 lc1).mono fun e W' ⟨he, bel⟩ => ?_
  subst he
  exact ⟨_, rfl, _, _, _, [], _, [], hW', trodAll_mk1 (shut_bool Tryd.underlying4 _), (trodAll_cons_mk (Below.trod laidOut (by kernel_rfl) (of_decide_eq_true (by kernel_rfl)) k0 bel lt0) (trodAll_cons_mk (Below.trod laidOut (by kernel_rfl) (of_decide_eq_true (by kernel_rfl)) k1 bel lt1) (trodAll_cons_mk (Below.trod laidOut (by kernel_rfl) (of_decide_eq_true (by kernel_rfl)) k2 bel lt2) trodAll_mk0))), rfl, bel.frame _, fun h => by cases h⟩
set_option maxRecDepth 100000 in
theorem notifyChooses_row : Rows.NotifyChoosesSaid :=
  OpenClaim.holds_of_wide 6 Tryd.f6 rfl rfl rfl rfl rfl rfl rfl ⟨rfl, rfl, rfl, rfl, rfl⟩ rfl rfl rfl rfl rfl (by kernel_rfl) Tryd.func6 (by kernel_rfl)
    (of_decide_eq_true (by kernel_rfl)) (by unfold Func.isWrapper; first | (rw [if_pos (by decide +kernel)]; kernel_rfl) | (rw [if_neg (by decide +kernel)]; exact ⟨rfl, rfl⟩))
    (fun os started H enc _ => notifyChooses_lifted os started H enc)
set_option maxRecDepth 100000 in
theorem notifyChooses_holds : Rows.NotifyChoosesCardSaid :=
  Claim7.holds_tied_plain_at .later [] [.data] true _ false
    notifyChooses_row (fun _ h => by cases h) (by kernel_rfl) (fun _ h => by cases h) notifyChooses_row_tie rfl ⟨rfl, rfl⟩ (by kernel_rfl) rfl
    (fun f fn hf hfn => by
      obtain rfl : f = 6 := Option.some.inj ((show Tryd.prog.funcNamed "belvedere/belvederelaw22.NotifyChooses" = some 6 by kernel_rfl).symm.trans hf) |>.symm
      obtain rfl : fn = Tryd.f6 := (Option.some.inj (Tryd.func6.symm.trans hfn)).symm
      exact ⟨by kernel_rfl, fun j t ht => by
        rw [Tryd.params6] at ht
        have h3 : t = 41 ∨ t = 42 ∨ t = 44 := by
          rcases j with _ | _ | _ | j
          · simp at ht; subst ht; simp
          · simp at ht; subst ht; simp
          · simp at ht; subst ht; simp
          · simp at ht
        rcases h3 with rfl | rfl | rfl
        all_goals first | exact (show Tryd.prog.wantsStandIn 41 = false by kernel_rfl) | exact (show Tryd.prog.wantsStandIn 42 = false by kernel_rfl) | exact (show Tryd.prog.wantsStandIn 44 = false by kernel_rfl)⟩)
    (by kernel_rfl)
#print axioms notifyChooses_holds
end
end Go.Proofs.YtjffciejoahegaaDoor
