/- The document's lists. -/
import Derived.Test.YtgocmfjijoibkaaDoorA1
import Derived.Test.YtgocmfjijoibkaaDoorE1
namespace Go.Proofs.YtgocmfjijoibkaaDoor
open Go.RowKit
set_option linter.unusedSimpArgs false
set_option linter.unusedVariables false
set_option linter.unusedVariables false
open Go.Shelf
def fl0 : Fl := ([], [])
def flC (f : Fl) : List Value := [.string ⟨f.1.toArray⟩, .string ⟨f.2.toArray⟩]
def cellsFl (F : List Fl) : List Value := F.flatMap flC
theorem cellsFl_len : ∀ F : List Fl, (cellsFl F).length = F.length * 2
  | [] => rfl
  | f :: r => by
    have := cellsFl_len r
    show (flC f ++ cellsFl r).length = _
    rw [List.length_append, this]; simp [flC]; omega
theorem cellsFl_snoc (F : List Fl) (f : Fl) : cellsFl (F ++ [f]) = cellsFl F ++ flC f := by simp [cellsFl]
theorem cellsFl_at : ∀ (F : List Fl) (i : Nat) (f : Fl), F[i]? = some f → (cellsFl F)[i * 2]? = some (.string ⟨f.1.toArray⟩) ∧ (cellsFl F)[i * 2 + 1]? = some (.string ⟨f.2.toArray⟩)
  | [], i, f, h => by simp at h
  | a :: r, 0, f, h => by cases h; exact ⟨rfl, rfl⟩
  | a :: r, i + 1, f, h => by
    have ih := cellsFl_at r i f (by simpa using h)
    have e : cellsFl (a :: r) = flC a ++ cellsFl r := rfl
    have g : ∀ k, (cellsFl (a :: r))[(i + 1) * 2 + k]? = (cellsFl r)[i * 2 + k]? := fun k => by
      rw [e, List.getElem?_append_right (by simp [flC]; omega)]
      congr 1; simp [flC]; omega
    exact ⟨(g 0).trans ih.1, (g 1).trans ih.2⟩
/-- A slice of the document's files, to be read. -/
def RdF (w : World) (v : Value) (F : List Fl) : Prop :=
  (∃ A cap, v = .slice A 0 cap ∧ F = [] ∧ (A = none → cap = 0)) ∨ ∃ (g cap : Nat) (cs : Array Value) (fr : Nat × Nat), v = .slice (some ⟨g, 0, none⟩) F.length cap ∧ F.length ≤ cap ∧ w.heap[g]? = some (Obj.cells cs 83 fr) ∧ ∀ i f, F[i]? = some f → cs[i * 2]? = some (.string ⟨f.1.toArray⟩) ∧ cs[i * 2 + 1]? = some (.string ⟨f.2.toArray⟩)
theorem RdF.nil (w : World) : RdF w (.slice none 0 0) [] := .inl ⟨none, 0, rfl, rfl, fun _ => rfl⟩
theorem RdF.kept {w w1 : World} {v : Value} {F : List Fl} (h : RdF w v F) (k : KeptY w w1) : RdF w1 v F := by
  rcases h with h | ⟨g, cap, cs, fr, e, h1, h2, h3⟩
  · exact .inl h
  · exact .inr ⟨g, cap, cs, fr, e, h1, k.2 g cs 83 fr (by decide) (by decide) h2, h3⟩
theorem RdF.form {w : World} {v : Value} {F : List Fl} (h : RdF w v F) : ∃ A cap, v = .slice A F.length cap := by
  rcases h with ⟨A, cap, rfl, rfl, _⟩ | ⟨g, cap, cs, fr, e, _⟩
  · exact ⟨_, _, rfl⟩
  · exact ⟨_, _, e⟩
theorem RdF.at_ {w : World} {A : Option Addr} {n cap : Nat} {F : List Fl} (h : RdF w (.slice A n cap) F) {i : Nat} {f : Fl} (hi : F[i]? = some f) : ∃ g, A = some ⟨g, 0, none⟩ ∧ w.cell? ⟨g, i * 2, none⟩ = some (.string ⟨f.1.toArray⟩) ∧ w.cell? ⟨g, i * 2 + 1, none⟩ = some (.string ⟨f.2.toArray⟩) ∧ g < w.heap.size := by
  rcases h with ⟨A, c, e, rfl, _⟩ | ⟨g, c, cs, fr, e, h1, h2, h3⟩
  · simp at hi
  · cases e
    obtain ⟨a, b⟩ := h3 i f hi
    exact ⟨g, rfl, by simp [World.cell?, h2, a], by simp [World.cell?, h2, b], (Array.getElem?_eq_some_iff.1 h2).1⟩
theorem RdF.of_owns {w : World} {B : Nat} {v : Value} {F : List Fl} (h : w.ownsRow B 83 2 v F.length (cellsFl F)) : RdF w v F := by
  rcases h.2 with ⟨e, h0⟩ | ⟨g, cap, cur, e, hB, hb, h1, h2, h3, h4⟩
  · exact .inl ⟨none, 0, e, List.eq_nil_of_length_eq_zero h0, fun _ => rfl⟩
  · refine .inr ⟨g, cap, cur, _, e, h1, hb, fun i f hf => ?_⟩
    have hi := (List.getElem?_eq_some_iff.1 hf).1
    obtain ⟨a, b⟩ := cellsFl_at F i f hf
    have key : ∀ k x, k < F.length * 2 → (cellsFl F)[k]? = some x → cur[k]? = some x := fun k x hk hx => by
      rw [← h4, List.getElem?_take_of_lt hk, Array.getElem?_toList] at hx
      exact hx
    exact ⟨key _ _ (by omega) a, key _ _ (by omega) b⟩
/-- Steps as the document holds them. -/
def kindS (s : Stp) : Int := if s.wr = true then 0 else if s.rm = true then 2 else 1
def sdC (s : Stp) : List Value := [.int .i64 (kindS s), .string s.name, .string s.dst, .string ⟨s.bs.toArray⟩]
def cellsD (T : List Stp) : List Value := T.flatMap sdC
theorem cellsD_snoc (T : List Stp) (s : Stp) : cellsD (T ++ [s]) = cellsD T ++ sdC s := by simp [cellsD]
theorem cellsD_len : ∀ T : List Stp, (cellsD T).length = T.length * 4
  | [] => rfl
  | f :: r => by
    have := cellsD_len r
    show (sdC f ++ cellsD r).length = _
    rw [List.length_append, this]; simp [sdC]; omega
theorem cellsD_at : ∀ (T : List Stp) (i : Nat) (s : Stp), T[i]? = some s → ∀ j, j < 4 → (cellsD T)[i * 4 + j]? = (sdC s)[j]?
  | [], i, s, h, _, _ => by simp at h
  | a :: r, 0, s, h, j, hj => by
    cases h
    show (sdC _ ++ cellsD r)[0 * 4 + j]? = _
    rw [List.getElem?_append_left (by simp [sdC]; omega)]; simp
  | a :: r, i + 1, s, h, j, hj => by
    show (sdC a ++ cellsD r)[(i + 1) * 4 + j]? = _
    rw [List.getElem?_append_right (by simp [sdC]; omega)]
    rw [← cellsD_at r i s (by simpa using h) j hj]; congr 1; simp [sdC]; omega
def RdD (w : World) (v : Value) (T : List Stp) : Prop :=
  (∃ A cap, v = .slice A 0 cap ∧ T = [] ∧ (A = none → cap = 0)) ∨ ∃ (g cap : Nat) (cs : Array Value) (fr : Nat × Nat), v = .slice (some ⟨g, 0, none⟩) T.length cap ∧ T.length ≤ cap ∧ w.heap[g]? = some (Obj.cells cs 79 fr) ∧ ∀ i s, T[i]? = some s → ∀ j, j < 4 → cs[i * 4 + j]? = (sdC s)[j]?
theorem RdD.nil (w : World) : RdD w (.slice none 0 0) [] := .inl ⟨none, 0, rfl, rfl, fun _ => rfl⟩
theorem RdD.kept {w w1 : World} {v : Value} {T : List Stp} (h : RdD w v T) (k : KeptY w w1) : RdD w1 v T := by
  rcases h with h | ⟨g, cap, cs, fr, e, h1, h2, h3⟩
  · exact .inl h
  · exact .inr ⟨g, cap, cs, fr, e, h1, k.2 g cs 79 fr (by decide) (by decide) h2, h3⟩
theorem RdD.form {w : World} {v : Value} {T : List Stp} (h : RdD w v T) : ∃ A cap, v = .slice A T.length cap := by
  rcases h with ⟨A, cap, rfl, rfl, _⟩ | ⟨g, cap, cs, fr, e, _⟩
  · exact ⟨_, _, rfl⟩
  · exact ⟨_, _, e⟩
theorem RdD.at_ {w : World} {A : Option Addr} {n cap : Nat} {T : List Stp} (h : RdD w (.slice A n cap) T) {i : Nat} {s : Stp} (hi : T[i]? = some s) : ∃ g, A = some ⟨g, 0, none⟩ ∧ (∀ j, j < 4 → w.cell? ⟨g, i * 4 + j, none⟩ = (sdC s)[j]?) ∧ g < w.heap.size := by
  rcases h with ⟨A, c, e, rfl, _⟩ | ⟨g, c, cs, fr, e, h1, h2, h3⟩
  · simp at hi
  · cases e
    exact ⟨g, rfl, fun j hj => by rw [← h3 i s hi j hj]; simp [World.cell?, h2], (Array.getElem?_eq_some_iff.1 h2).1⟩
theorem RdD.of_owns {w : World} {B : Nat} {v : Value} {T : List Stp} (h : w.ownsRow B 79 4 v T.length (cellsD T)) : RdD w v T := by
  rcases h.2 with ⟨e, h0⟩ | ⟨g, cap, cur, e, hB, hb, h1, h2, h3, h4⟩
  · exact .inl ⟨none, 0, e, List.eq_nil_of_length_eq_zero h0, fun _ => rfl⟩
  · refine .inr ⟨g, cap, cur, _, e, h1, hb, fun i s hs j hj => ?_⟩
    have hi := (List.getElem?_eq_some_iff.1 hs).1
    rw [← cellsD_at T i s hs j hj, ← h4, List.getElem?_take_of_lt (by omega), Array.getElem?_toList]
/-- The document's disk as a value. -/
def Doc (w : World) (v : Value) (x : FS) : Prop := ∃ v1 v2 v3, v = .agg #[v1, v2, v3] ∧ RdF w v1 x.now ∧ RdF w v2 x.sure ∧ RdD w v3 x.T
theorem Doc.kept {w w1 : World} {v : Value} {x : FS} (h : Doc w v x) (k : KeptY w w1) : Doc w1 v x := by
  obtain ⟨v1, v2, v3, e, h1, h2, h3⟩ := h
  exact ⟨v1, v2, v3, e, h1.kept k, h2.kept k, h3.kept k⟩
theorem byte_is (c d : UInt8) : ((c.toNat : Int) == (d.toNat : Int)) = decide (c = d) := by
  by_cases h : c = d
  · subst h; simp
  · rw [decide_eq_false h]
    have : ¬ c.toNat = d.toNat := fun e => h (UInt8.toNat.inj e)
    simp; omega
def setS : List UInt8 := [97, 98, 99, 100, 101, 102, 103, 104, 105, 106, 107, 108, 109, 110, 111, 112, 113, 114, 115, 116, 117, 118, 119, 120, 121, 122, 48, 49, 50, 51, 52, 53, 54, 55, 56, 57, 46, 45]
theorem set_ok : ∀ c : UInt8, setS.any (fun z => decide (c = z)) = okB c := by
  intro c
  have : ∀ n : Fin 256, setS.any (fun z => decide (UInt8.ofNat n.val = z)) = okB (UInt8.ofNat n.val) := by decide +kernel
  have h := this ⟨c.toNat, c.toNat_lt⟩
  simpa using h
end Go.Proofs.YtgocmfjijoibkaaDoor
