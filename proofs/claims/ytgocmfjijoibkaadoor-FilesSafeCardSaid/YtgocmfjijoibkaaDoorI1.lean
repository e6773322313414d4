/- Maps of files: copies, keys, names. -/
import Derived.Test.YtgocmfjijoibkaaDoorD3
import Derived.Test.YtgocmfjijoibkaaDoorShelfLay
import Derived.Sort.KeysCollected
namespace Go.Proofs.YtgocmfjijoibkaaDoor
open Go.RowKit
set_option linter.unusedSimpArgs false
set_option linter.unusedVariables false
open Go.Maps Go.Sort Go.Shelf
/-- The names of files. -/
def namesF (F : List Fl) : List (List UInt8) := F.map Prod.fst
theorem mem_names {F : List Fl} {x : List UInt8} : x ∈ namesF F ↔ (lookF F x).isSome = true := by
  unfold namesF
  induction F with
  | nil => simp [lookF]
  | cons f r ih =>
    rw [List.map_cons, List.mem_cons, ih, lookF]
    by_cases h : f.1 = x
    · rw [if_pos h]; simp [h]
    · rw [if_neg h]
      constructor
      · rintro (h2 | h2)
        · exact absurd h2.symm h
        · exact h2
      · exact .inr
theorem Asc.names {F : List Fl} (h : Asc F) : (namesF F).Pairwise (fun a b => a < b) := List.pairwise_map.2 h
theorem Asc.nodup {F : List Fl} (h : Asc F) : (namesF F).Nodup := h.names.imp (fun {a b} hlt (e : a = b) => by subst e; exact lt_irr hlt)
theorem MapF.keys {w : World} {b : Nat} {F : List Fl} {D : DataW Value} (ho : w.ownsMap Tryd.prog 9 rawR b (Maps.size D) D) (ht : Tidy D) (hA : Asc F)
    (hx : ∀ x, (Maps.has D (.string x) = (lookF F x).isSome)) : (namesF F).Perm (strKeys D) := by
  obtain ⟨es, rfl, hp⟩ := ht
  refine perm_strKeys hp ?_ hA.nodup (fun x => by rw [hx x]; exact mem_names)
  obtain ⟨es', he, hk⟩ := ho.keysOf
  cases he
  intro p hp
  obtain ⟨key, hkey⟩ := hk p hp
  obtain ⟨x, _, hx, _⟩ := Maps.keyOf_str Tryd.underlying9 hkey
  exact ⟨x, hx⟩
theorem srt_names {F : List Fl} (hA : Asc F) {ss : List (List UInt8)} (h : ss.Perm (namesF F)) : ss.mergeSort (fun x y => decide (x ≤ y)) = namesF F := by
  have e := mergeSort_of_perm h
  refine e.trans (List.mergeSort_of_pairwise (hA.names.imp fun hlt => ?_))
  simp only [leB, decide_eq_true_eq]
  exact List.le_of_lt hlt
theorem clone_walk (b : Nat) (F : List Fl) (w : World) (h : MapF w b F) : Calls Tryd.prog 31 #[.map (some b)] w fun e w' => e = .returned (.map (some w.heap.size)) ∧ MapF w' w.heap.size F ∧ Below w.heap.size w w' := by
  obtain ⟨D, ho, ht, hz, hx⟩ := h
  refine (AnyW.maps_Clone_owns Tryd.cloneM 9 rawR b _ D w ho).mono ?_
  rintro e w' ⟨rfl, h1, h2, hB⟩
  exact ⟨rfl, ⟨D, h1, ht, hz, fun x => ⟨(hx x).1, fun bs hb => by
    obtain ⟨v, e1, e2⟩ := (hx x).2 bs hb
    exact ⟨v, e1, e2.kept (KeptY.below hB)⟩⟩⟩, hB⟩
theorem Tryd.sortsS (m : Nat) : AnyZ.SortsIn Tryd.prog Tryd.sortedS_ren Fence.wide m :=
  ⟨fun blk off cap ss W hH hblk hsz => callsIn_wide.2 (AnyM.slices_Sort_string Tryd.sortS blk off cap ss W hH hblk hsz),
   fun p cap W => callsIn_wide.2 (AnyM.slices_Sort_string_none Tryd.sortS p cap W)⟩
theorem keys_walk (b : Nat) (W : World) : Calls Tryd.prog 29 #[.map (some b)] W fun e w' => e = .returned (.func (.func 42) #[] #[.pointer (some ⟨W.heap.size, 0, none⟩)]) ∧ w' = W.alloc (.cells #[.map (some b)] 59) :=
  callsIn_wide.1 (AnyZ.keys_in Tryd.keysM Fence.wide 5 trivial rfl (some b) W)
set_option maxHeartbeats 1000000 in
theorem sorted_walk (b : Nat) (F : List Fl) (w : World) (h : MapF w b F) (hA : Asc F) (hF : F.length ≤ 64) :
    Calls Tryd.prog 28 #[.func (.func 42) #[] #[.pointer (some ⟨w.heap.size, 0, none⟩)]] (w.alloc (.cells #[.map (some b)] 59)) fun e w' => ∃ v, e = .returned v ∧
      w'.ownsRow (w.alloc (.cells #[.map (some b)] 59)).heap.size 9 1 v F.length ((namesF F).map encStr) ∧ (v = .slice none 0 0 ↔ F = []) ∧ Below w.heap.size w w' := by
  obtain ⟨D, hown, ht, hz, hx⟩ := h
  have hbl := hown.lt
  have hseq : SeqGives Fence.wide 2 Tryd.prog 42 #[.pointer (some ⟨w.heap.size, 0, none⟩)] encStr (fun ss => ss.Perm (strKeys D)) (Maps.size D) (w.alloc (.cells #[.map (some b)] 59)) :=
    AnyZ.keys_gives (ρ := Tryd.keysM_ren) { Tryd.keysM with } Fence.wide _ trivial rfl (by omega) w.heap.size b _ D _ (by simp) (by simp) (by
      obtain ⟨es, clock, hb, Ft, hs, hD⟩ := hown
      exact ⟨es, clock, (Below.heap_alloc _ _ b hbl).trans hb, Ft, hs, hD⟩)
  have hc := callsIn_wide.1 (AnyZ.sorted_in Tryd.sortedS Fence.wide 5 trivial trivial trivial trivial rfl (by omega) (Tryd.sortsS _) (enters_of Tryd.func41 (by kernel_rfl) rfl) 42 #[.pointer (some ⟨w.heap.size, 0, none⟩)] trivial (enters_of Tryd.func42 (by kernel_rfl) rfl) _ _ (by unfold maxLen; omega) (by omega) _ hseq)
  refine Calls.mono hc ?_
  rintro e w' ⟨v, ss, rfl, hp, hrow, hnil, hB⟩
  have hkeys := MapF.keys hown ht hA (fun x => (hx x).1)
  have hp2 := hp.trans hkeys.symm
  have hl : ss.length = F.length := by rw [hp2.length_eq]; simp [namesF]
  refine ⟨v, rfl, ?_, ?_, ?_⟩
  · rw [← srt_names hA hp2, ← hl]; exact hrow
  · rw [hnil]
    constructor
    · intro e; rw [e] at hl; exact List.eq_nil_of_length_eq_zero hl.symm
    · intro e; rw [e] at hl; exact List.eq_nil_of_length_eq_zero hl
  · exact ((Below.refl _ w).alloc (Nat.le_refl _) _).trans (hB.mono (by simp))
end Go.Proofs.YtgocmfjijoibkaaDoor
