/- Names as themselves between marks, in plain lists. -/
import Derived.Test.YtacajmknlknjkaaDoorP2
namespace Go.Proofs.YtacajmknlknjkaaDoor
open Go.RowKit
set_option linter.unusedVariables false
/-- Marks that open and close, in turns; two of them are one. -/
def wantF : Bool → List UInt8 → List UInt8
  | _, [] => []
  | true, c :: r => if c = 36 then 62 :: wantF false r else c :: wantF true r
  | false, [c] => if c = 36 then [60] else [c]
  | false, c :: d :: r => if c = 36 then (if d = 36 then 36 :: wantF false r else 60 :: wantF true (d :: r)) else c :: wantF false (d :: r)
theorem wantF_true_eq (r : List UInt8) : wantF true (36 :: r) = 62 :: wantF false r := by rw [wantF, if_pos rfl]
theorem wantF_ne {c : UInt8} (hc : c ≠ 36) (b : Bool) (r : List UInt8) : wantF b (c :: r) = c :: wantF b r := by
  cases b with
  | true => rw [wantF, if_neg hc]
  | false =>
    cases r with
    | nil => simp [wantF, hc]
    | cons d r => simp [wantF, hc]
theorem wantF_two (r : List UInt8) : wantF false (36 :: 36 :: r) = 36 :: wantF false r := by rw [wantF, if_pos rfl, if_pos rfl]
theorem wantF_open {r : List UInt8} (h : ∀ d r', r = d :: r' → d ≠ 36) : wantF false (36 :: r) = 60 :: wantF true r := by
  cases r with
  | nil => rfl
  | cons d r => simp [wantF, h d r rfl]
theorem wantF_le : ∀ (l : List UInt8) (b : Bool), (wantF b l).length ≤ l.length
  | [], b => by cases b <;> exact Nat.le_refl _
  | c :: r, true => by
    rw [wantF]; split
    · have := wantF_le r false; simp; omega
    · have := wantF_le r true; simp; omega
  | [c], false => by rw [wantF]; split <;> simp
  | c :: d :: r, false => by
    rw [wantF]; split
    · split
      · have := wantF_le r false; simp; omega
      · have := wantF_le (d :: r) true; simp at this ⊢; omega
    · have := wantF_le (d :: r) false; simp at this ⊢; omega
theorem nmStep_sub {o : List (List UInt8)} {p x : List UInt8} (h : x ∈ o) : x ∈ nmStep o p := by
  unfold nmStep; split
  · exact h
  · exact List.mem_append_left _ h
theorem nmStep_new {o : List (List UInt8)} {p : List UInt8} (h : p ≠ []) : p ∈ nmStep o p := by
  unfold nmStep; split
  · rename_i hh; rcases hh with hh | hh
    · exact absurd hh h
    · exact hh
  · exact List.mem_append_right _ (List.mem_singleton.2 rfl)
theorem nrun_mono : ∀ (l : List UInt8) (st : Ns) (n : List UInt8), n ∈ st.o → n ∈ (nrun st l).o
  | [], st, n, h => h
  | c :: l, st, n, h => by
    refine nrun_mono l (nstep st c) n ?_
    unfold nstep
    split
    · split
      · exact nmStep_sub h
      · exact h
    · split
      · exact h
      · exact h
/-- Filled in with each name between marks, a text is as it was told. -/
theorem want_run (L : List Mc) : ∀ (k : Nat) (l : List UInt8), l.length ≤ k →
    (∀ (x o x' : List UInt8) (o' : List (List UInt8)), l.count 36 % 2 = 0 → (∀ n ∈ (nrun ⟨false, x', o'⟩ l).o, n ≠ [] → valB L n = [60] ++ n ++ [62]) → (runB L ⟨false, x, o⟩ l).o = o ++ wantF false l) ∧
    (∀ (x o : List UInt8) (o' : List (List UInt8)), l.count 36 % 2 = 1 → (∀ n ∈ (nrun ⟨true, x, o'⟩ l).o, n ≠ [] → valB L n = [60] ++ n ++ [62]) → (x = [] → ∀ d r, l = d :: r → d ≠ 36) → (runB L ⟨true, x, o⟩ l).o = o ++ [60] ++ x ++ wantF true l)
  | k, [], _ => ⟨fun x o x' o' _ _ => by simp [runB, wantF], fun x o o' h => by simp at h⟩
  | 0, c :: l, hk => by simp at hk
  | k + 1, c :: l, hk => by
    have hk' : l.length ≤ k := by simpa using hk
    by_cases hc : c = 36
    · subst hc
      have hlen : (36 :: l).count 36 = l.count 36 + 1 := by simp
      refine ⟨fun x o x' o' h hv => ?_, fun x o o' h hv hx => ?_⟩
      · have e : runB L ⟨false, x, o⟩ (36 :: l) = runB L ⟨true, [], o⟩ l := rfl
        have e2 : nrun ⟨false, x', o'⟩ (36 :: l) = nrun ⟨true, [], o'⟩ l := rfl
        rw [e]
        rw [e2] at hv
        cases l with
        | nil => simp at h
        | cons d r =>
          by_cases hd : d = 36
          · subst hd
            have e3 : runB L ⟨true, [], o⟩ (36 :: r) = runB L ⟨false, [], o ++ [36]⟩ r := rfl
            have e4 : nrun ⟨true, [], o'⟩ (36 :: r) = nrun ⟨false, [], o'⟩ r := rfl
            rw [e4] at hv
            have hr : (36 :: r).count 36 = r.count 36 + 1 := by simp
            rw [e3, wantF_two, ((want_run L k r (by simp at hk'; omega)).1 [] (o ++ [36]) [] o' (by omega) hv)]
            simp
          · rw [((want_run L k (d :: r) hk').2 [] o o' (by omega) hv (fun _ d' r' e => by cases e; exact hd)), wantF_open (fun d' r' e => by cases e; exact hd)]
            simp
      · have e : runB L ⟨true, x, o⟩ (36 :: l) = runB L ⟨false, x, o ++ valB L x⟩ l := rfl
        have e2 : nrun ⟨true, x, o'⟩ (36 :: l) = nrun ⟨false, x, nmStep o' x⟩ l := rfl
        rw [e2] at hv
        have hxn : x ≠ [] := fun h0 => hx h0 36 l rfl rfl
        have hvx := hv x (nrun_mono l _ x (nmStep_new hxn)) hxn
        rw [e, (want_run L k l hk').1 x (o ++ valB L x) x (nmStep o' x) (by omega) hv, hvx, wantF_true_eq]
        simp
    · have hlen : (c :: l).count 36 = l.count 36 := List.count_cons_of_ne (by simpa using hc)
      rw [hlen]
      refine ⟨fun x o x' o' h hv => ?_, fun x o o' h hv hx => ?_⟩
      · have e : runB L ⟨false, x, o⟩ (c :: l) = runB L ⟨false, x, o ++ [c]⟩ l := by simp [runB, stepB, hc]
        have e2 : nrun ⟨false, x', o'⟩ (c :: l) = nrun ⟨false, x', o'⟩ l := by simp [nrun, nstep, hc]
        rw [e2] at hv
        rw [e, (want_run L k l hk').1 x (o ++ [c]) x' o' h hv, wantF_ne hc]
        simp
      · have e : runB L ⟨true, x, o⟩ (c :: l) = runB L ⟨true, x ++ [c], o⟩ l := by simp [runB, stepB, hc]
        have e2 : nrun ⟨true, x, o'⟩ (c :: l) = nrun ⟨true, x ++ [c], o'⟩ l := by simp [nrun, nstep, hc]
        rw [e2] at hv
        rw [e, (want_run L k l hk').2 (x ++ [c]) o o' h hv (fun h0 => by simp at h0), wantF_ne hc]
        simp
/-- Names as themselves between marks. -/
def ownM (L : List ByteArray) : List Mc := L.map fun b => ⟨b, ⟨#[60]⟩ ++ b ++ ⟨#[62]⟩⟩
theorem ownM_val {L : List ByteArray} {n : List UInt8} (h : n ∈ L.map (·.data.toList)) (h0 : n ≠ []) : valB (ownM L) n = [60] ++ n ++ [62] := by
  unfold valB
  rw [if_neg h0]
  obtain ⟨b, hb, rfl⟩ := List.mem_map.1 h
  cases hf : (ownM L).find? (fun m => m.n.data.toList == b.data.toList) with
  | none =>
    have := List.find?_eq_none.1 hf ⟨b, ⟨#[60]⟩ ++ b ++ ⟨#[62]⟩⟩ (List.mem_map.2 ⟨b, hb, rfl⟩)
    simp at this
  | some m =>
    have h1 := List.find?_some hf
    have h2 := List.mem_of_find?_eq_some hf
    obtain ⟨b', hb', rfl⟩ := List.mem_map.1 h2
    simp only [beq_iff_eq] at h1
    simp [ByteArray.data_append, h1]
theorem own_want {L : List ByteArray} {l : List UInt8} (hE : l.count 36 % 2 = 0) (hL : L.map (·.data.toList) = namesB l) : expB (ownM L) l = wantF false l := by
  have := (want_run (ownM L) l.length l (Nat.le_refl _)).1 [] [] [] [] hE (fun n hn h0 => ownM_val (by rw [hL]; exact hn) h0)
  simpa [expB] using this
end Go.Proofs.YtacajmknlknjkaaDoor
