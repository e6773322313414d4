/- Steps in plain lists; a step of a disk. -/
import Derived.Test.YtgocmfjijoibkaaDoorK5
namespace Go.Proofs.YtgocmfjijoibkaaDoor
open Go.RowKit
set_option linter.unusedSimpArgs false
set_option linter.unusedVariables false
/-- The steps' files. -/
def runF (l : List Fl) (T : List Stp) : List Fl := T.foldl doF l
def cutS (s : Stp) (p : Nat) : Stp := { s with bs := s.bs.take p }
def crashF (l : List Fl) (T : List Stp) (k p : Nat) : List Fl :=
  match T[k]? with
  | some s => if 0 < p ∧ s.wr = true then doF (runF l (T.take k)) (cutS s p) else runF l (T.take k)
  | none => runF l (T.take k)
theorem runF_snoc (l : List Fl) (T : List Stp) (s : Stp) : runF l (T ++ [s]) = doF (runF l T) s := by unfold runF; rw [List.foldl_append]; rfl
theorem runF_take (l : List Fl) (T : List Stp) (k : Nat) (s : Stp) (h : T[k]? = some s) : runF l (T.take (k + 1)) = doF (runF l (T.take k)) s := by
  rw [List.take_add_one, h]; exact runF_snoc l _ s
theorem doF_len {F : List Fl} (s : Stp) : (doF F s).length ≤ F.length + 1 := by
  unfold doF
  split
  · exact with_le _ _
  · split
    · have := without_le F s.name.data.toList; omega
    · have h1 := with_le (withoutF F s.name.data.toList) (s.dst.data.toList, (lookF F s.name.data.toList).getD [])
      have h2 := without_le F s.name.data.toList
      omega
theorem runF_asc (l : List Fl) (h : Asc l) : ∀ T : List Stp, Asc (runF l T) := fun T => by
  unfold runF
  induction T generalizing l with
  | nil => exact h
  | cons s r ih => exact ih _ (doF_asc h s)
theorem runF_len (l : List Fl) : ∀ T : List Stp, (runF l T).length ≤ l.length + T.length := fun T => by
  unfold runF
  induction T generalizing l with
  | nil => simp
  | cons s r ih =>
    have h1 := ih (doF l s)
    have h2 := doF_len (F := l) s
    simp at h1 ⊢; omega
theorem crashF_asc (l : List Fl) (h : Asc l) (T : List Stp) (k p : Nat) : Asc (crashF l T k p) := by
  unfold crashF
  split
  · split
    · exact doF_asc (runF_asc l h _) _
    · exact runF_asc l h _
  · exact runF_asc l h _
theorem cellsT_at : ∀ (T : List Stp) (i : Nat) (s : Stp), T[i]? = some s → ∀ j, j < 5 → (cellsT T)[i * 5 + j]? = (stL s)[j]?
  | [], i, s, h, _, _ => by simp at h
  | a :: r, 0, s, h, j, hj => by
    cases h
    show (stL a ++ cellsT r)[0 * 5 + j]? = _
    rw [List.getElem?_append_left (by simp [stL]; omega)]; simp
  | a :: r, i + 1, s, h, j, hj => by
    show (stL a ++ cellsT r)[(i + 1) * 5 + j]? = _
    rw [List.getElem?_append_right (by simp [stL]; omega)]
    have := cellsT_at r i s (by simpa using h) j hj
    rw [← this]; congr 1; simp [stL]; omega
/-- A step's cells in the row. -/
theorem row_step {w : World} {B : Nat} {As : Option Addr} {cs : Nat} {T : List Stp} (h : w.ownsRow B 68 5 (.slice As T.length cs) T.length (cellsT T)) {i : Nat} {s : Stp} (hs : T[i]? = some s) :
    ∃ g, As = some ⟨g, 0, none⟩ ∧ T.length ≤ cs ∧ ∀ j, j < 5 → w.cell? ⟨g, i * 5 + j, none⟩ = (stL s)[j]? := by
  have hi := (List.getElem?_eq_some_iff.1 hs).1
  rcases h.2 with ⟨e, h0⟩ | ⟨g, cap, cur, e, hB, hb, h1, h2, h3, h4⟩
  · omega
  · cases e
    refine ⟨g, rfl, h1, fun j hj => ?_⟩
    rw [← cellsT_at T i s hs j hj, ← h4, List.getElem?_take, if_pos (by omega), Array.getElem?_toList]
    simp [World.cell?, hb]
theorem row_cap {w : World} {B : Nat} {As : Option Addr} {cs : Nat} {T : List Stp} (h : w.ownsRow B 68 5 (.slice As T.length cs) T.length (cellsT T)) : T.length ≤ cs := by
  rcases h.2 with ⟨e, h0⟩ | ⟨g, cap, cur, e, hB, hb, h1, h2, h3, h4⟩
  · omega
  · cases e; exact h1
theorem RdY.take {w : World} {A : Option Addr} {cap : Nat} {bs : List UInt8} (h : RdY w (.slice A bs.length cap) bs) (p : Nat) : RdY w (.slice A (min p bs.length) (min p bs.length)) (bs.take p) := by
  have hl : (bs.take p).length = min p bs.length := List.length_take
  rcases h with ⟨A', c, e, rfl, hA⟩ | ⟨g', o', c, cs, fr, e, h1, h2, h3, h4⟩
  · cases e
    exact .inl ⟨A, 0, by simp, by simp, fun _ => rfl⟩
  · cases e
    refine .inr ⟨g', o', min p bs.length, cs, fr, by rw [hl], by rw [hl]; omega, h2, by omega, fun i hi => ?_⟩
    rw [hl] at hi
    rw [h4 i (by omega)]
    congr 2
    simp [List.getD_eq_getElem?_getD, List.getElem?_take, show i < p by omega]
theorem sl_h (A : Option Addr) (n c k : Nat) (hk : k ≤ c) (W : World) : (Instr.slice 60 (.slice A n c) none (some (.int .i64 (k : Int))) none).run Tryd.prog W = .ok (.slice A k c) W := by
  rw [run_slice_h W 60 A n c (by kernel_rfl) .i64 (k : Int) (by omega) (by omega)]
  have hz : (sizeOf (Tryd.prog.elem 60)).run Tryd.prog W = .ok 5 W := by kernel_rfl
  rw [hz]
  cases A <;> simp [sliced, Result.andThen, Addr.add]
theorem sl_m (A : Option Addr) (n c k : Nat) (hk : k ≤ c) (W : World) : (Instr.slice 29 (.slice A n c) none (some (.int .i64 (k : Int))) (some (.int .i64 (k : Int)))).run Tryd.prog W = .ok (.slice A k k) W := by
  rw [run_slice_hm W 29 A n c (by kernel_rfl) .i64 .i64 (k : Int) (k : Int) (by omega) (by omega) (by omega)]
  have hz : (sizeOf (Tryd.prog.elem 29)).run Tryd.prog W = .ok 1 W := by kernel_rfl
  rw [hz]
  cases A <;> simp [sliced, Result.andThen, Addr.add]
end Go.Proofs.YtgocmfjijoibkaaDoor
