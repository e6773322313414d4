/- For every text and all macros, the law MacroQuotes answers true: a text that is quoted, and expanded, is itself, whatever stands for names; without names but the empty one, and with all names in a text known as themselves between marks, it is as it was told. Condition: errors.errorType, unicode/utf8.acceptRanges and unicode/utf8.first read as the program's text lays them (the card ties them). -/
import Derived.Test.YtacajmknlknjkaaDoorLaid
import Derived.Test.YtacajmknlknjkaaDoorCards
import Derived.Test.YtacajmknlknjkaaDoorTie
import Derived.SevenTiedAt
import Derived.ProofKit
import Derived.OpenShut
import Derived.ShutString
import Derived.ChangeMaps5
import Derived.ChangeOld
import Derived.SizedLaws
import Derived.Lib.SmallJoins
import Derived.Test.YtacajmknlknjkaaDoorQ1
import Derived.Test.YtacajmknlknjkaaDoorFlat
namespace Go.Proofs.YtacajmknlknjkaaDoor
section
open Go.ChangeShapes Go.WideShapes Go.ChangeAt Go.RowKit Go.Joins
set_option linter.unusedVariables false
theorem one_str {H : Type} {enc : TypeId × Value → H} {P : Program} {w : World} {base : Nat} {spare : Nat → Bool} {held : Bool} {n : Nat} {cs : List Value} {o c : Nat} {ty : TypeId} (hu : P.underlying ty = some .string) (hc : c = 1)
    (h : ∃ y, DataW.trod enc P w base spare held n ty ((cs.drop o).take c) = some y) : ∃ s : ByteArray, cs[o]? = some (.string s) := by
  obtain ⟨y, hy⟩ := h
  subst hc
  obtain ⟨s, e, _⟩ := DataW.trod_string hu hy
  exact ⟨s, one_of e⟩
instance : Inhabited Mc := ⟨mc0⟩
set_option maxRecDepth 100000 in
theorem macs_of {H : Type} {enc : TypeId × Value → H} {W : World} {a : Option Addr} {len cap : Nat} {d : DataW H} {p : List MemPlace}
    (h : DataW.Trod enc Tryd.prog W 0 (fun _ => true) true 22 (.slice a len cap) d p) : ∃ L : List Mc, RdM W (.slice a len cap) W.heap.size L ∧ L.length ≤ 9223372036854775807 := by
  obtain ⟨fuel, hf⟩ := h
  have c46 : Tryd.prog.cellsOf 49 = 2 := by kernel_rfl
  rcases DataW.trod_slice Tryd.underlying22 hf with ⟨hcs, _⟩ | ⟨x, l, c, elems, rest, n, rfl, hcs, hx, hb, hl, hm, he, hel, _⟩
  · simp [Value.cells] at hcs
    obtain ⟨rfl, rfl, rfl⟩ := hcs
    exact ⟨[], .inl ⟨none, 0, rfl, fun _ => rfl, rfl⟩, by simp⟩
  · simp [Value.cells] at hcs
    obtain ⟨rfl, rfl, rfl⟩ := hcs
    unfold maxLen at hm
    have key : ∀ j, j < len → ∃ e : Mc, W.cell? (x.add (j * 2)) = some (.string e.n) ∧ W.cell? ⟨(x.add (j * 2)).block, (x.add (j * 2)).off + 1, none⟩ = some (.string e.v) := by
      intro j hj
      have hj' : j < elems.length := by omega
      have h1 := hel j hj
      rw [c46, List.getElem?_eq_getElem hj', Option.bind_eq_some_iff] at h1
      obtain ⟨cs, h2, h3⟩ := h1
      obtain ⟨_, hlen, hcell⟩ := World.cells?_some h2
      obtain ⟨ys, m, _, _, _, hl4, hy⟩ := DataW.trod_struct Tryd.underlying49 h3
      have e0 := hcell 0 (by omega)
      have e1 := hcell 1 (by omega)
      match cs, hlen with
      | [u, v], _ =>
        have y0 := hy 0 _ rfl
        have y1 := hy 1 _ rfl
        have hys : ys.length = 2 := hl4
        rw [List.getElem?_eq_getElem (by omega)] at y0 y1
        obtain ⟨u', eu⟩ := one_str Tryd.underlying9 (by kernel_rfl) ⟨_, y0⟩
        obtain ⟨v', ev⟩ := one_str Tryd.underlying9 (by kernel_rfl) ⟨_, y1⟩
        simp at eu ev
        subst eu ev
        have a0 : (x.add (j * 2)).add 0 = x.add (j * 2) := by unfold Addr.add; simp
        have a1 : (x.add (j * 2)).add 1 = ⟨(x.add (j * 2)).block, (x.add (j * 2)).off + 1, none⟩ := by rw [Addr.add, if_neg (by decide)]
        rw [a0] at e0
        rw [a1] at e1
        exact ⟨⟨u', v'⟩, e0, e1⟩
    classical
    let f : Nat → Mc := fun j => if hj : j < len then (key j hj).choose else mc0
    have hf : ∀ j (hj : j < len), f j = (key j hj).choose := fun j hj => by simp only [f, dif_pos hj]
    have hL : ((List.range len).map f).length = len := by simp
    refine ⟨(List.range len).map f, ?_, by rw [hL]; omega⟩
    by_cases h0 : len = 0
    · subst h0; exact .inl ⟨some x, cap, rfl, (fun h => by cases h), by simp⟩
    · obtain ⟨g, o, s⟩ := x
      have h00 := (key 0 (by omega)).choose_spec.1
      have hs : s = none := by simpa [Addr.add] using World.cell?_spot h00
      subst hs
      have hg := World.block_lt_of_cell? W _ h00
      rw [add_block] at hg
      refine .inr ⟨g, o, cap, by rw [hL], hg, fun j hj => ?_⟩
      rw [hL] at hj
      have hadd : ∀ k, ((⟨g, o, none⟩ : Addr).add k) = ⟨g, o + k, none⟩ := fun k => by unfold Addr.add; split <;> simp_all
      have := (key j hj).choose_spec
      have e : ((List.range len).map f).getD j mc0 = (key j hj).choose := by rw [← hf j hj]; simp [List.getD_eq_getElem?_getD, hj]
      rw [e]
      obtain ⟨E, hE⟩ : ∃ E, E = (key j hj).choose := ⟨_, rfl⟩
      rw [← hE] at this ⊢
      rw [hadd] at this
      exact this
end
section
open Go.ChangeShapes Go.WideShapes Go.ChangeAt Go.RowKit Go.Joins
set_option linter.unusedVariables false

set_option maxRecDepth 100000 in
theorem macroQuotes_lifted (os : Os) (started : os.Started) (H : Type) (enc : TypeId × Value → H) :
    ReturnsInHanded {} Tryd.checked os 7 .any (fun w args => (Rows.macroQuotesSpec.pre enc Tryd.prog Tryd.f7 [] false w args ∧ laidMetH Tryd.prog laidL w) ∧ sizedMet enc Tryd.prog Tryd.f7 (OpenSpec.ofChange Rows.macroQuotesSpec) false w args)
      (Rows.macroQuotesSpec.post enc Tryd.prog Tryd.f7 false true false false) := by
  refine lifted_shaped (C := Tryd.checked) (X := fun w _ => laidMetH Tryd.prog laidL w) (fun _ _ _ hh h => h.of_heap hh) Tryd.own started (by kernel_rfl) Tryd.func7
    (ChangeSpec.witness_shaped (enc := enc) (C := Tryd.checked) (os := os) (X := fun w _ => laidMetH Tryd.prog laidL w) false (laidWorld os) #[.string ByteArray.empty, .slice none 0 0] 8 (laidWorld_os os) (World.shaped_of_ZipB (by kernel_rfl) (by kernel_rfl)) (by kernel_rfl) (by kernel_rfl) (by kernel_rfl) (laidWorld_met os _)) ?_
  intro W base args ds gs before hval0 hW _ _ hL hsh
  have hval : ∀ (j : Nat) t v, Tryd.f7.params[j]? = some t → args[j]? = some v → Value.okWide Tryd.prog W .any base t v := hval0
  have hW' := hW
  obtain ⟨p, q, hA0, hV0, rfl, hfz, hnd⟩ := hW
  have hA : DataW.TrodAll enc Tryd.prog W 0 (fun _ => true) true Tryd.f7.params.toList args.toList ds p := hA0
  have hV : DataW.TrodVars enc Tryd.prog W (fun _ => true) [] gs q := hV0
  rw [Tryd.params7] at hA hval
  obtain ⟨v0, vs0, d0, ds0, p0, q0, hargs0, rfl, rfl, h0, r0⟩ := trodAll_cons hA
  obtain ⟨v1, vs1, d1, ds1, p1, q1, hargs1, rfl, rfl, h1, r1⟩ := trodAll_cons r0
  obtain ⟨rfl, rfl, rfl⟩ := trodAll_nil r1
  obtain rfl : args = #[v0, v1] := by cases args; simp_all
  have hg := handle_of_laid hL
  have hm := maxLen_of_shape hsh
  obtain ⟨rfl, rfl⟩ : gs = [] ∧ q = [] := by
    cases gs with
    | nil => exact ⟨rfl, hV⟩
    | cons g r => exact absurd hV (by intro h; cases h)
  have k0 := h0
  have lt0 : ∀ x ∈ p0, x.block < W.heap.size := by obtain ⟨m, hm⟩ := k0; exact DataW.trod_lt m _ _ _ hm
  obtain ⟨s0, rfl, e0, _, ws0⟩ := Go.ChangeMaps.open_string Tryd.underlying9 (hval 0 9 v0 rfl rfl) h0
  unfold maxLen at ws0
  have k1 := h1
  have lt1 : ∀ x ∈ p1, x.block < W.heap.size := by obtain ⟨m, hm⟩ := k1; exact DataW.trod_lt m _ _ _ hm
  obtain ⟨a1, len1, cap1, rfl⟩ := okWide_slice Tryd.underlying22 (hval 1 22 v1 rfl rfl)
  obtain ⟨L1, i1, l1⟩ := macs_of h1
  clear hA0 hval0
  refine (quotes_walk s0 _ L1 W hg hm i1 l1 (by omega)).mono fun e W' ⟨he, bel⟩ => ?_
  subst he
  exact ⟨_, rfl, _, _, _, [], _, [], hW', trodAll_mk1 (shut_bool Tryd.underlying4 _), (trodAll_cons_mk (Below.trod laidOut (by kernel_rfl) (of_decide_eq_true (by kernel_rfl)) k0 bel lt0) (trodAll_cons_mk (Below.trod laidOut (by kernel_rfl) (of_decide_eq_true (by kernel_rfl)) k1 bel lt1) trodAll_mk0)), rfl, bel.frame _, fun h => by cases h⟩
set_option maxRecDepth 100000 in
theorem macroQuotes_row : Rows.MacroQuotesSaid :=
  OpenClaim.holds_of_wide 7 Tryd.f7 rfl rfl rfl rfl rfl rfl rfl ⟨rfl, rfl, rfl, rfl, rfl⟩ rfl rfl rfl rfl rfl (by kernel_rfl) Tryd.func7 (by kernel_rfl)
    (of_decide_eq_true (by kernel_rfl)) (by unfold Func.isWrapper; first | (rw [if_pos (by decide +kernel)]; kernel_rfl) | (rw [if_neg (by decide +kernel)]; exact ⟨rfl, rfl⟩))
    (fun os started H enc _ => macroQuotes_lifted os started H enc)
set_option maxRecDepth 100000 in
theorem macroQuotes_holds : Rows.MacroQuotesCardSaid :=
  Claim7.holds_tied_plain_at .later [] [.data, .handle, .pinned] true _ true
    macroQuotes_row (fun _ h => by cases h) (by kernel_rfl) (fun _ h => by cases h) macroQuotes_row_tie rfl ⟨rfl, rfl⟩ (by kernel_rfl) rfl
    (fun f fn hf hfn => by
      obtain rfl : f = 7 := Option.some.inj ((show Tryd.prog.funcNamed "belvedere/belvederelaw21.MacroQuotes" = some 7 by kernel_rfl).symm.trans hf) |>.symm
      obtain rfl : fn = Tryd.f7 := (Option.some.inj (Tryd.func7.symm.trans hfn)).symm
      exact ⟨by kernel_rfl, fun j t ht => by
        rw [Tryd.params7] at ht
        have h3 : t = 9 ∨ t = 22 := by
          rcases j with _ | _ | j
          · simp at ht; subst ht; simp
          · simp at ht; subst ht; simp
          · simp at ht
        rcases h3 with rfl | rfl
        all_goals first | exact (show Tryd.prog.wantsStandIn 9 = false by kernel_rfl) | exact (show Tryd.prog.wantsStandIn 22 = false by kernel_rfl)⟩)
    (by kernel_rfl)
#print axioms macroQuotes_holds
end
end Go.Proofs.YtacajmknlknjkaaDoor
