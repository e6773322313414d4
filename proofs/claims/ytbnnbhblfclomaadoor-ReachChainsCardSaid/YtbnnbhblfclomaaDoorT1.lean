/- Ways that are turned round. -/
import Derived.Test.YtbnnbhblfclomaaDoorO1
namespace Go.Proofs.YtbnnbhblfclomaaDoor
open Go.RowKit
set_option linter.unusedSimpArgs false
set_option linter.unusedVariables false
def cells2 (E : Ways) : List Value := E.flatMap fun e => [.int .i64 (e.1 : Int), .int .i64 (e.2 : Int)]
theorem cells2_len (E : Ways) : (cells2 E).length = E.length * 2 := by
  unfold cells2
  induction E with
  | nil => rfl
  | cons e r ih => rw [List.flatMap_cons, List.length_append, ih]; simp; omega
theorem cells2_snoc (E : Ways) (a b : Nat) : cells2 (E ++ [(a, b)]) = cells2 E ++ [.int .i64 (a : Int), .int .i64 (b : Int)] := by unfold cells2; simp
theorem cells2_get : ∀ (E : Ways) (j a b : Nat), E[j]? = some (a, b) → (cells2 E)[j * 2]? = some (.int .i64 (a : Int)) ∧ (cells2 E)[j * 2 + 1]? = some (.int .i64 (b : Int))
  | [], j, a, b, h => by simp at h
  | e :: r, 0, a, b, h => by simp at h; subst h; exact ⟨rfl, rfl⟩
  | e :: r, j + 1, a, b, h => by
    have := cells2_get r j a b (by simpa using h)
    have hc : cells2 (e :: r) = [.int .i64 (e.1 : Int), .int .i64 (e.2 : Int)] ++ cells2 r := rfl
    rw [hc, List.getElem?_append_right (by simp; omega), List.getElem?_append_right (by simp; omega)]
    simpa [show (j + 1) * 2 - 2 = j * 2 by omega, show (j + 1) * 2 + 1 - 2 = j * 2 + 1 by omega] using this
theorem Pairs.of_owns2 {w : World} {B : Nat} {v : Value} {E : Ways} (h : w.ownsRow B 55 2 v E.length (cells2 E)) (hb : E.length ≤ 9223372036854775807) : Pairs w v (castE E) := by
  rcases h.2 with ⟨rfl, h0⟩ | ⟨g, cap, cur, rfl, hB, hg, hn, hcm, hcs, ht⟩
  · have := List.eq_nil_of_length_eq_zero h0
    subst this
    exact ⟨none, 0, rfl, by decide, fun h => by simp [castE] at h⟩
  · refine ⟨_, cap, by rw [castE_len], by rw [castE_len]; exact hb, fun _ => ⟨_, rfl, (Array.getElem?_eq_some_iff.1 hg).1, fun j hj => ?_⟩⟩
    rw [castE_len] at hj
    obtain ⟨⟨a, b⟩, hab⟩ : ∃ e, E[j]? = some e := ⟨_, List.getElem?_eq_getElem hj⟩
    have hB' : Blk w g 55 cur := hg
    obtain ⟨h1, h2⟩ := cells2_get E j a b hab
    have q : ∀ (i : Nat) (u : Value), (cells2 E)[i]? = some u → cur[i]? = some u := by
      intro i u hu
      have hi := (List.getElem?_eq_some_iff.1 hu).1
      rw [cells2_len] at hi
      rw [← ht, List.getElem?_take, if_pos hi] at hu
      simpa using hu
    rw [castE_get hab, add_lit0]
    refine ⟨by rw [hB'.cell]; exact q _ _ (by simpa using h1), ?_⟩
    show w.cell? ⟨g, 0 + j * 2 + 1, none⟩ = _
    rw [hB'.cell]; exact q _ _ (by simpa using h2)
theorem info23 : (Tryd.prog.info? 55).map (fun i => (i.zero, i.size, i.bytes)) = some (some (.agg #[.int .i64 0, .int .i64 0]), 2, 16) := by kernel_rfl
end Go.Proofs.YtbnnbhblfclomaaDoor
