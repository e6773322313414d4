/- Loop and Clone, walked. -/
import Derived.Test.YtdgclggmemciaaaDoorM15
import Derived.WalkSpells
namespace Go.Proofs.YtdgclggmemciaaaDoor
open Go.RowKit
set_option linter.unusedSimpArgs false
set_option linter.unusedVariables false
theorem owns_low {w : World} {B B' : Nat} {v : Value} {n : Nat} {xs : List Value} (h : w.ownsRow B' 3 1 v n xs) (hB : B ≤ B') : w.ownsRow B 3 1 v n xs := by
  rcases h.2 with h0 | ⟨g, cap, cur, e, hb, hr⟩
  · exact ⟨h.1, .inl h0⟩
  · exact ⟨h.1, .inr ⟨g, cap, cur, e, by omega, hr⟩⟩
set_option maxRecDepth 100000 in
theorem clone_walk (v : Value) (l : List Nat) (w : World) (h : Reads w v l) (hl : l.length ≤ 1048576) :
    Calls Tryd.prog 25 #[v] w fun x w' => ∃ u, x = .returned u ∧ w'.ownsRow w.heap.size 3 1 u l.length (nats l) ∧ Below w.heap.size w w' := by
  obtain ⟨i0, hi0, hz0, hz1, hz2⟩ := info_parts info3
  obtain ⟨A, cap, rfl, hA⟩ := h
  rcases hA with ⟨rfl, rfl, rfl⟩ | ⟨g, o, rfl, hg, hc⟩
  · have q : ∀ (w : World), (binOp .eql 25 (.slice none 0 0) (.slice none 0 0)).run Tryd.prog w = .ok (.bool true) w := fun w => Lib.run_eql_slice_nil w _ _ none 0 0 0 0 Tryd.underlying25
    go_enter Tryd.func25, Tryd.ntmps25
    go_wp2
    go_ret
    exact ⟨_, rfl, World.ownsRow_nil _ _ _ _, Below.refl _ _⟩
  · have q : ∀ (w : World), (binOp .eql 25 (.slice (some ⟨g, o, none⟩) l.length cap) (.slice none 0 0)).run Tryd.prog w = .ok (.bool false) w := fun w => Lib.run_eql_slice_nil w _ _ (some ⟨g, o, none⟩) l.length cap 0 0 Tryd.underlying25
    have B1 := below_al (Below.refl w.heap.size w) (.cells #[] 3)
    have hnews := Reads.news (w := w.alloc (.cells #[] 3)) (g := g) (o := o) (l := l) (fun j x hj => (B1.cell (p := ⟨g, o + j, none⟩) hg).trans (hc j x hj))
    have hn1 := nats_one l
    have hnl := nats_len l
    have own1 : (w.alloc (.cells #[] 3)).ownsRow w.heap.size 3 1 (.slice (some ⟨w.heap.size, 0, none⟩) 0 0) 0 [] := World.ownsRow_made w #[] 0 (Nat.le_refl _) (Nat.zero_le _) rfl
    clear hc
    go_enter Tryd.func25, Tryd.ntmps25
    go_wp2_with (at_builtin; refine wpList_append_own _ rfl _ _ 25 rfl w.heap.size 3 i0 (.int .i64 0) 1 8 Tryd.underlying25 hi0 hz0 hz1 hz2 rfl (by decide) (.slice (some ⟨w.heap.size, 0, none⟩) 0 0) 0 [] rfl own1 ⟨g, o, none⟩ l.length cap (nats l) rfl (by omega) hnews hn1 (by simp only [maxLen]; omega) (by omega) B1.size ?_; intro v3 w3 own3 gr3 nil3)
    have B3 := below_grown B1 gr3 (fun k e => by have : w.heap.size = k := by simpa [Value.ownBlock] using e
                                                 omega) B1.size
    rw [List.nil_append, Nat.zero_add] at own3
    have HO := Lib.hid own3
    clear own3 gr3 nil3 hnews
    go_wp2
    go_ret
    exact ⟨_, rfl, HO.out, B3⟩
theorem chkF_ok {n : Nat} {E : Ways} (hE : ∀ e, e ∈ E → e.1 < n ∧ e.2 < n) (hn : n ≤ 4096) (hm : E.length ≤ 1048576) : chkF n (castE E) = 0 := by
  unfold chkF
  rw [if_neg (by rw [castE_len]; omega), if_neg]
  intro h
  obtain ⟨e, he, ha⟩ := List.any_eq_true.1 h
  unfold castE at he
  obtain ⟨p, hp, rfl⟩ := List.mem_map.1 he
  have := hE p hp
  unfold away at ha
  simp only [Bool.or_eq_true, decide_eq_true_eq] at ha
  omega
theorem chkF_zero {n : Int} {L : List (Int × Int)} (h : chkF n L = 0) : ∃ (N : Nat) (E : Ways), n = N ∧ L = castE E ∧ (∀ e, e ∈ E → e.1 < N ∧ e.2 < N) ∧ N ≤ 4096 ∧ E.length ≤ 1048576 := by
  unfold chkF at h
  by_cases c : n < 0 ∨ 4096 < n ∨ 1048576 < L.length
  · rw [if_pos c] at h; cases h
  · rw [if_neg c] at h
    by_cases d : L.any (away n) = true
    · rw [if_pos d] at h; cases h
    · have hall : ∀ e, e ∈ L → 0 ≤ e.1 ∧ e.1 < n ∧ 0 ≤ e.2 ∧ e.2 < n := by
        intro e he
        have : away n e = false := by
          cases hh : away n e with
          | false => rfl
          | true => exact absurd (List.any_eq_true.2 ⟨e, he, hh⟩) d
        unfold away at this
        simp only [Bool.or_eq_false_iff, decide_eq_false_iff_not] at this
        omega
      refine ⟨n.toNat, L.map (fun e => (e.1.toNat, e.2.toNat)), by omega, ?_, ?_, by omega, by rw [List.length_map]; omega⟩
      · unfold castE
        rw [List.map_map]
        apply List.ext_getElem?
        intro i
        rw [List.getElem?_map]
        cases hi : L[i]? with
        | none => rfl
        | some e =>
          have := hall e (List.mem_of_getElem? hi)
          simp only [Option.map_some, Function.comp]
          congr 1
          exact Prod.ext (by simp; omega) (by simp; omega)
      · intro e he
        obtain ⟨p, hp, rfl⟩ := List.mem_map.1 he
        have := hall p hp
        simp only
        omega
theorem errI_zero : errI 0 = .nilIface := rfl
theorem loop_bad (n : Int) (v : Value) (L : List (Int × Int)) (w : World) (hL : Pairs w v L) (hf : chkF n L ≠ 0) :
    Calls Tryd.prog 14 #[.int .i64 n, v] w fun x w' => x = .returned (.tuple #[.int .i64 0, .bool false, errI (chkF n L)]) ∧ Below w.heap.size w w' := by
  have CK := Lib.hid (check_walk n v L w hL)
  obtain ⟨k, hk⟩ : ∃ k : Int, errI (chkF n L) = .iface 43 (.int .i64 k) := ⟨_, if_neg hf⟩
  rw [hk] at CK ⊢
  clear hL
  go_enter Tryd.func14, Tryd.ntmps14
  go_wp2_with (fail)
  refine CK.out.mono ?_
  rintro x w1 ⟨rfl, B1⟩
  go_wp2
  go_ret3
  exact ⟨rfl, B1⟩
end Go.Proofs.YtdgclggmemciaaaDoor
