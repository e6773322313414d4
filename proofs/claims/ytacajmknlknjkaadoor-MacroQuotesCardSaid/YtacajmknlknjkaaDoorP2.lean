/- The names in a text, and it quoted, in plain lists. -/
import Derived.Test.YtacajmknlknjkaaDoorP1
import Derived.Lib.Replace
namespace Go.Proofs.YtacajmknlknjkaaDoor
open Go.RowKit
set_option linter.unusedVariables false
/-- One more name, if it is none of those that are there. -/
def nmStep (o : List (List UInt8)) (p : List UInt8) : List (List UInt8) := if p = [] ∨ p ∈ o then o else o ++ [p]
structure Ns where
  i : Bool
  x : List UInt8
  o : List (List UInt8)
def nstep (s : Ns) (c : UInt8) : Ns := if c = 36 then (if s.i then ⟨false, s.x, nmStep s.o s.x⟩ else ⟨true, [], s.o⟩) else (if s.i then ⟨true, s.x ++ [c], s.o⟩ else ⟨false, s.x, s.o⟩)
def nrun (s : Ns) (l : List UInt8) : Ns := l.foldl nstep s
def namesB (l : List UInt8) : List (List UInt8) := (nrun ⟨false, [], []⟩ l).o
def nmF : Nat → List (List UInt8) → List (List UInt8) → List (List UInt8)
  | _, [], o => o
  | k, p :: r, o => nmF (k + 1) r (if k % 2 = 1 then nmStep o p else o)
theorem nmF_two : ∀ (r o : List (List UInt8)) (k : Nat), nmF (k + 2) r o = nmF k r o
  | [], _, _ => rfl
  | p :: r, o, k => by
    rw [nmF, nmF, Nat.add_mod_right, show k + 2 + 1 = k + 1 + 2 by omega, nmF_two r _ (k + 1)]
theorem nmF_snoc : ∀ (ps : List (List UInt8)) (p : List UInt8) (o : List (List UInt8)) (k : Nat), nmF k (ps ++ [p]) o = if (k + ps.length) % 2 = 1 then nmStep (nmF k ps o) p else nmF k ps o
  | [], p, o, k => by simp [nmF]
  | q :: r, p, o, k => by
    rw [List.cons_append, nmF, nmF, nmF_snoc r p _ (k + 1), List.length_cons, show k + 1 + r.length = k + (r.length + 1) by omega]
theorem nrun_pcs : ∀ (l x : List UInt8) (o : List (List UInt8)),
    (l.count 36 % 2 = 0 → (nrun ⟨false, x, o⟩ l).o = nmF 0 (pcs l) o) ∧
    (l.count 36 % 2 = 1 → ∀ p r, pcs l = p :: r → (nrun ⟨true, x, o⟩ l).o = nmF 0 r (nmStep o (x ++ p)))
  | [], x, o => ⟨fun _ => by simp [nrun, pcs, nmF], fun h => by simp at h⟩
  | c :: l, x, o => by
    obtain ⟨p, r, hp⟩ := pcs_cons l
    by_cases hc : c = 36
    · subst hc
      have hlen : (36 :: l).count 36 = l.count 36 + 1 := by simp
      refine ⟨fun h => ?_, fun h p' r' h' => ?_⟩
      · have h1 := (nrun_pcs l [] o).2 (by omega) p r hp
        have e : nrun ⟨false, x, o⟩ (36 :: l) = nrun ⟨true, [], o⟩ l := rfl
        rw [e, h1, pcs_eq, hp, nmF, nmF, nmF_two, if_pos (by decide), if_neg (by decide)]; rfl
      · rw [pcs_eq] at h'
        cases h'
        have h1 := (nrun_pcs l x (nmStep o x)).1 (by omega)
        have e : nrun ⟨true, x, o⟩ (36 :: l) = nrun ⟨false, x, nmStep o x⟩ l := rfl
        rw [e, h1, List.append_nil]
    · have hlen : (c :: l).count 36 = l.count 36 := List.count_cons_of_ne (by simpa using hc)
      rw [hlen, pcs_ne hc hp]
      refine ⟨fun h => ?_, fun h p' r' h' => ?_⟩
      · have h1 := (nrun_pcs l x o).1 h
        have e : nrun ⟨false, x, o⟩ (c :: l) = nrun ⟨false, x, o⟩ l := by simp [nrun, nstep, hc]
        rw [e, h1, hp, nmF, nmF, if_neg (by decide), if_neg (by decide)]
      · cases h'
        have h1 := (nrun_pcs l (x ++ [c]) o).2 h p r hp
        have e : nrun ⟨true, x, o⟩ (c :: l) = nrun ⟨true, x ++ [c], o⟩ l := by simp [nrun, nstep, hc]
        rw [e, h1]; simp
theorem names_pcs (l : List UInt8) (h : l.count 36 % 2 = 0) : namesB l = nmF 0 (pcs l) [] := (nrun_pcs l [] []).1 h
def namesE (l : List UInt8) : Int := if 65536 < l.length then 2 else if l.count 36 % 2 = 1 then 3 else 0
def namesO (l : List UInt8) : List (List UInt8) := if namesE l = 0 then namesB l else []
/-- Each mark twice. -/
def quF (l : List UInt8) : List UInt8 := l.flatMap fun c => if c = 36 then [36, 36] else [c]
theorem quF_cons (c : UInt8) (l : List UInt8) : quF (c :: l) = (if c = 36 then [36, 36] else [c]) ++ quF l := rfl
theorem quF_app (a b : List UInt8) : quF (a ++ b) = quF a ++ quF b := by unfold quF; rw [List.flatMap_append]
theorem quF_len : ∀ l : List UInt8, (quF l).length = l.length + l.count 36
  | [] => rfl
  | c :: l => by
    rw [quF_cons, List.length_append, quF_len l]
    by_cases hc : c = 36
    · subst hc; simp; omega
    · rw [if_neg hc, List.count_cons_of_ne (by simpa using hc)]; simp; omega
theorem replaceK_qu : ∀ l : List UInt8, Lib.replaceK [36] [36, 36] (l.count 36) l = quF l
  | [] => rfl
  | c :: l => by
    have ih := replaceK_qu l
    rw [quF_cons]
    by_cases hc : c = 36
    · subst hc
      have hix : Lib.index (36 :: l) [36] = ((0 : Nat) : Int) := by rw [Lib.index]; simp [List.isPrefixOf]
      rw [List.count_cons_self, Lib.replaceK_hit _ _ _ _ _ hix, if_pos rfl, ← ih]; rfl
    · rw [List.count_cons_of_ne (by simpa using hc), if_neg hc]
      have hp : ([36] : List UInt8).isPrefixOf (c :: l) = false := by simp [List.isPrefixOf, Ne.symm hc]
      have hix : Lib.index (c :: l) [36] = if Lib.index l [36] == -1 then -1 else Lib.index l [36] + 1 := by rw [Lib.index, hp]; simp
      cases hk : l.count 36 with
      | zero =>
        rw [hk] at ih
        rw [Lib.replaceK, ← ih]; rfl
      | succ k =>
        rw [hk] at ih
        obtain ⟨j, hj⟩ := Lib.index_of_count (s := l) (old := [36]) (by rw [Lib.count_one]; omega)
        have hix' : Lib.index (c :: l) [36] = ((j + 1 : Nat) : Int) := by rw [hix, if_neg (fun e => by have := beq_iff_eq.1 e; omega), hj]; omega
        rw [Lib.replaceK_hit _ _ _ _ _ hj] at ih
        rw [Lib.replaceK_hit _ _ _ _ _ hix', ← ih]
        simp
theorem replaceAll_qu (l : List UInt8) : Lib.replaceAll l [36] [36, 36] = quF l := by
  unfold Lib.replaceAll Lib.replace
  rw [if_neg (by decide)]
  have e : Lib.replaceNum l [36] (-1) = l.count 36 := by unfold Lib.replaceNum; rw [if_pos (by omega), Lib.count_one]
  rw [e, replaceK_qu]
/-- A text that is quoted has even marks; expanded it is itself. -/
theorem quF_run (L : List Mc) : ∀ (l o : List UInt8) (x : List UInt8), ((runB L ⟨false, x, o⟩ (quF l)).o = o ++ l) ∧ (quF l).count 36 % 2 = 0
  | [], o, x => ⟨by simp [quF, runB], rfl⟩
  | c :: l, o, x => by
    rw [quF_cons, runB_app, List.count_append]
    by_cases hc : c = 36
    · subst hc
      rw [if_pos rfl]
      have e : runB L ⟨false, x, o⟩ [36, 36] = ⟨false, [], o ++ [36]⟩ := by simp [runB, stepB, valB]
      obtain ⟨h1, h2⟩ := quF_run L l (o ++ [36]) []
      rw [e, h1]
      refine ⟨by simp, ?_⟩
      simp; omega
    · rw [if_neg hc]
      have e : runB L ⟨false, x, o⟩ [c] = ⟨false, x, o ++ [c]⟩ := by simp [runB, stepB, hc]
      obtain ⟨h1, h2⟩ := quF_run L l (o ++ [c]) x
      rw [e, h1]
      refine ⟨by simp, ?_⟩
      rw [List.count_cons_of_ne (by simpa using hc)]; simpa using h2
def quE (l : List UInt8) : Int := if 65536 < (quF l).length then 2 else 0
def quO (l : List UInt8) : List UInt8 := if quE l = 0 then quF l else []
end Go.Proofs.YtacajmknlknjkaaDoor
