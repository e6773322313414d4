/- The document's lines, in plain lists. -/
import Derived.Test.YtfioigbopagogaaDoorX1
import Derived.Test.YtfioigbopagogaaDoorP5
namespace Go.Proofs.YtfioigbopagogaaDoor
open Go.RowKit
set_option linter.unusedVariables false
theorem trim_dec (x : List UInt8) : ∃ b1 b2, Bl b1 ∧ Bl b2 ∧ x = b1 ++ Lib.trimS x blanks ++ b2 := by
  refine ⟨x.takeWhile isB, ((x.dropWhile isB).reverse.takeWhile isB).reverse, takeW, takeW.reverse, ?_⟩
  rw [trim_lr, trimR, List.append_assoc, ← List.reverse_append, List.takeWhile_append_dropWhile, List.reverse_reverse, List.takeWhile_append_dropWhile]
theorem bl_count {b : List UInt8} (h : Bl b) : b.count 59 = 0 := by
  rw [List.count_eq_zero]
  intro hm
  have := h 59 hm
  revert this; decide
theorem trim_cut (x : List UInt8) : Lib.trimS (Lib.cut (Lib.trimS x blanks) [59]).1 blanks = Lib.trimS (Lib.cut x [59]).1 blanks := by
  obtain ⟨b1, b2, h1, h2, hx⟩ := trim_dec x
  generalize Lib.trimS x blanks = y at *
  subst hx
  by_cases h0 : y.count 59 = 0
  · rw [cut_none h0, cut_none (by rw [List.count_append, List.count_append, bl_count h1, bl_count h2, h0]), trim_bl h1 h2]
  · obtain ⟨a, c, e, ha⟩ := first_cut y (by omega)
    subst e
    have e2 : b1 ++ (a ++ 59 :: c) ++ b2 = (b1 ++ a) ++ 59 :: (c ++ b2) := by simp
    rw [cut_app ha, e2, cut_app (by rw [List.count_append, bl_count h1, ha])]
    have := trim_bl (b1 := b1) (b2 := []) (x := a) h1 (fun c hc => by cases hc)
    simp at this
    rw [this]
/-- The document's line: trimmed, cut, trimmed. -/
def docT (x : List UInt8) : List UInt8 := Lib.trimS (Lib.cut (Lib.trimS x blanks) [59]).1 blanks
theorem pre_cons (y : List UInt8) : Lib.hasPrefix y [35] = true ↔ ∃ u, y = 35 :: u := by
  cases y with
  | nil => simp [Lib.hasPrefix]
  | cons c r =>
    simp only [Lib.hasPrefix, List.isPrefixOf, Bool.and_true, beq_iff_eq, List.cons.injEq]
    constructor
    · intro h; exact ⟨r, h.symm, rfl⟩
    · rintro ⟨_, h, _⟩; exact h.symm
theorem doc_said (x : List UInt8) : (if Lib.hasPrefix (docT x) [35] = true then [] else docT x) = saidF x := by
  have hT : docT x = Lib.trimS (Lib.cut x [59]).1 blanks := trim_cut x
  have hp : Lib.hasPrefix (docT x) [35] = true ↔ Lib.hasPrefix (Lib.trimS x blanks) [35] = true := by
    unfold docT
    rw [pre35, pre_cons]
    rcases trim_head x with ⟨_, e⟩ | ⟨c, u, v, _, h2, e⟩
    · rw [e]; simp [Lib.cut, Lib.index]
    · rw [e]
      by_cases hc : c = 59
      · subst hc
        have := cut_app (x := []) (y := v) (d := 59) rfl
        rw [List.nil_append] at this
        rw [this]; simp
      · have hcut : ∃ v', (Lib.cut (c :: v) [59]).1 = c :: v' := by
          by_cases h0 : (c :: v).count 59 = 0
          · rw [cut_none h0]; exact ⟨v, rfl⟩
          · obtain ⟨a, b, e2, ha⟩ := first_cut (c :: v) (by omega)
            rw [e2, cut_app ha]
            cases a with
            | nil => rw [List.nil_append] at e2; cases e2; exact absurd rfl hc
            | cons d r => rw [List.cons_append] at e2; cases e2; exact ⟨r, rfl⟩
        obtain ⟨v', hv⟩ := hcut
        rw [hv, List.dropWhile_cons_of_neg (by rw [h2]; simp)]
        constructor
        · rintro ⟨w, hw⟩; cases hw; exact ⟨_, rfl⟩
        · rintro ⟨w, hw⟩; cases hw; exact ⟨_, rfl⟩
  unfold saidF
  rw [hT] at hp ⊢
  by_cases h : Lib.hasPrefix (Lib.trimS x blanks) [35] = true
  · rw [if_pos h, if_pos (hp.2 h)]
  · rw [if_neg h, if_neg (fun h' => h (hp.1 h'))]
/-- What is left to be said, a line begun. -/
def linesC (number at_ : Nat) (t : List UInt8) (ps : List (List UInt8)) (out : List (Nat × List UInt8)) : Res :=
  match ps with
  | [] => ⟨out, 0, 0⟩
  | p :: r => contF (endsF p) (number + 1) at_ (t ++ stripF p) r out
theorem linesC_none (i : Nat) (ps : List (List UInt8)) (out : List (Nat × List UInt8)) : linesS i none ps out = linesC i i [] ps out := by
  cases ps with
  | nil => rfl
  | cons p r => rw [linesS_none]; rfl
theorem linesC_some (i a : Nat) (t : List UInt8) (ps : List (List UInt8)) (out : List (Nat × List UInt8)) : linesS i (some (a, t)) ps out = linesC i a t ps out := by
  cases ps with
  | nil => rfl
  | cons p r => rw [linesS_some]; rfl
def DocI (X : List UInt8) (i number at_ : Nat) (text : List UInt8) (out : List (Nat × List UInt8)) : Prop :=
  ∃ t p pre, text = t ++ p ∧ X.take i = pre ++ p ∧ (pre = [] ∨ ∃ q, pre = q ++ [10]) ∧ p.count 10 = 0 ∧ linesF X = linesC number at_ t (pcs 10 (p ++ X.drop i)) out
theorem docI_zero {X : List UInt8} (h : X.length ≤ 65536) : DocI X 0 1 1 [] [] :=
  ⟨[], [], [], rfl, rfl, .inl rfl, rfl, by unfold linesF; rw [if_neg (by omega), linesC_none]; rfl⟩
theorem docI_byte {X text : List UInt8} {i number at_ : Nat} {out : List (Nat × List UInt8)} {c : UInt8} (h : DocI X i number at_ text out) (hi : X[i]? = some c) (hc : c ≠ 10) : DocI X (i + 1) number at_ (text ++ [c]) out := by
  obtain ⟨t, p, pre, h1, h2, h3, h4, h5⟩ := h
  obtain ⟨hil, hic⟩ := List.getElem?_eq_some_iff.1 hi
  refine ⟨t, p ++ [c], pre, by rw [h1]; simp, by rw [List.take_add_one, hi, h2]; simp, h3, by rw [List.count_append, h4, List.count_cons_of_ne (by simpa using hc)]; rfl, ?_⟩
  rw [h5, List.append_assoc]
  have := List.drop_eq_getElem_cons hil
  rw [hic] at this
  rw [this]; rfl
/-- Whether the piece goes on with the next one. -/
def onE (X text : List UInt8) (i : Nat) : Bool := lastIs text && lastIs (X.take i)
theorem docI_E {X text : List UInt8} {i number at_ : Nat} {out : List (Nat × List UInt8)} (h : DocI X i number at_ text out) :
    ∃ t p, onE X text i = endsF p ∧ (if onE X text i then text.dropLast else text) = t ++ stripF p ∧ p.count 10 = 0 ∧ linesF X = linesC number at_ t (pcs 10 (p ++ X.drop i)) out := by
  obtain ⟨t, p, pre, h1, h2, h3, h4, h5⟩ := h
  refine ⟨t, p, ?_, ?_, h4, h5⟩
  all_goals
    rcases List.eq_nil_or_concat p with rfl | ⟨q, c, rfl⟩
    · have hl : lastIs (X.take i) = false := by
        rw [h2, List.append_nil]
        rcases h3 with rfl | ⟨q, rfl⟩
        · rfl
        · unfold lastIs; simp
      have hE : onE X text i = false := by unfold onE; rw [hl, Bool.and_false]
      rw [hE]
      first | exact endsEmpty.1.symm | (rw [endsEmpty.2, h1]; rfl)
    · rw [List.concat_eq_append] at *
      have e1 : lastIs text = decide (c = 92) := by
        rw [h1]; unfold lastIs; rw [← List.append_assoc, List.getLast?_concat]
        by_cases h : c = 92
        · subst h; rfl
        · rw [decide_eq_false h]; simp [h]
      have e2 : lastIs (X.take i) = decide (c = 92) := by
        rw [h2]; unfold lastIs; rw [← List.append_assoc, List.getLast?_concat]
        by_cases h : c = 92
        · subst h; rfl
        · rw [decide_eq_false h]; simp [h]
      have hE : onE X text i = decide (c = 92) := by unfold onE; rw [e1, e2, Bool.and_self]
      rw [hE]
      by_cases h : c = 92
      · subst h
        first | exact (ends_yes q).1.symm | (rw [(ends_yes q).2, h1]; simp [← List.append_assoc])
      · have hno : endsF (q ++ [c]) = false ∧ stripF (q ++ [c]) = q ++ [c] := by
          have hx : endsF (q ++ [c]) = false := by
            unfold endsF Lib.hasSuffix
            refine Bool.eq_false_iff.2 fun hs => ?_
            obtain ⟨u, hu⟩ := List.isSuffixOf_iff_suffix.1 hs
            have := congrArg List.getLast? hu
            rw [List.getLast?_concat, List.getLast?_concat] at this
            exact h (Option.some.inj this).symm
          refine ⟨hx, ?_⟩
          unfold stripF Lib.trimSuffix
          unfold endsF at hx
          rw [hx]; rfl
        rw [decide_eq_false h]
        first | exact hno.1.symm | (rw [hno.2, h1]; rfl)
theorem docI_stroke {X text : List UInt8} {i number at_ : Nat} {out : List (Nat × List UInt8)} (h : DocI X i number at_ text out) (hi : X[i]? = some 10) (hE : onE X text i = true) : DocI X (i + 1) (number + 1) at_ text.dropLast out := by
  obtain ⟨t, p, e1, e2, h4, h5⟩ := docI_E h
  obtain ⟨hil, hic⟩ := List.getElem?_eq_some_iff.1 hi
  have hd := List.drop_eq_getElem_cons hil
  rw [hic] at hd
  rw [hE] at e1 e2
  rw [if_pos rfl] at e2
  refine ⟨t ++ stripF p, [], X.take (i + 1), by rw [e2, List.append_nil], by simp, .inr ⟨X.take i, by rw [List.take_add_one, hi]; rfl⟩, rfl, ?_⟩
  rw [h5, hd, pcs_app h4]
  show contF (endsF p) (number + 1) at_ (t ++ stripF p) (pcs 10 (X.drop (i + 1))) out = _
  obtain ⟨a, b, hab⟩ := pcs_cons 10 (X.drop (i + 1))
  rw [← e1, List.nil_append]
  unfold contF
  rw [if_pos (by rw [hab]; rfl), linesC_some]
/-- The end of a line: what is said. -/
theorem docI_line {X text : List UInt8} {i number at_ : Nat} {out : List (Nat × List UInt8)} (h : DocI X i number at_ text out) (hi : (X ++ [10])[i]? = some 10) (hE : ¬ (onE X text i = true ∧ i < X.length)) :
    linesF X = (if saidF (if onE X text i then text.dropLast else text) = [] then linesS (number + 1) none ((pcs 10 (X.drop i)).drop 1) out
      else if 4096 < (saidF (if onE X text i then text.dropLast else text)).length then ⟨[], at_, 2⟩
      else linesS (number + 1) none ((pcs 10 (X.drop i)).drop 1) (out ++ [(at_, saidF (if onE X text i then text.dropLast else text))])) := by
  obtain ⟨t, p, e1, e2, h4, h5⟩ := docI_E h
  rw [e2, h5]
  have hpc : pcs 10 (p ++ X.drop i) = p :: (pcs 10 (X.drop i)).drop 1 := by
    by_cases hl : i < X.length
    · have hd := List.drop_eq_getElem_cons hl
      rw [List.getElem?_append_left hl, List.getElem?_eq_getElem hl] at hi
      rw [Option.some.inj hi] at hd
      rw [hd, pcs_app h4, pcs_eq]; rfl
    · rw [List.drop_of_length_le (by omega), List.append_nil, pcs_none h4]; rfl
  rw [hpc]
  show contF (endsF p) (number + 1) at_ (t ++ stripF p) _ out = _
  unfold contF
  rw [if_neg]
  rw [← e1]
  intro hc
  obtain ⟨h1, h2⟩ := Bool.and_eq_true_iff.1 hc
  refine hE ⟨h1, ?_⟩
  refine Nat.lt_of_not_le fun hl => ?_
  rw [List.drop_of_length_le hl] at h2
  simp [pcs] at h2
theorem docI_next {X : List UInt8} {i number : Nat} {out : List (Nat × List UInt8)} (hi : X[i]? = some 10) (h : linesF X = linesS number none ((pcs 10 (X.drop i)).drop 1) out) : DocI X (i + 1) number number [] out := by
  obtain ⟨hil, hic⟩ := List.getElem?_eq_some_iff.1 hi
  have hd := List.drop_eq_getElem_cons hil
  rw [hic] at hd
  refine ⟨[], [], X.take (i + 1), rfl, by simp, .inr ⟨X.take i, by rw [List.take_add_one, hi]; rfl⟩, rfl, ?_⟩
  rw [h, hd, pcs_eq, linesC_none]; rfl
theorem docI_end {X : List UInt8} {i number : Nat} {out : List (Nat × List UInt8)} (hi : X.length ≤ i) (h : linesF X = linesS number none ((pcs 10 (X.drop i)).drop 1) out) : linesF X = ⟨out, 0, 0⟩ := by
  rw [h, List.drop_of_length_le hi]; rfl
end Go.Proofs.YtfioigbopagogaaDoor
