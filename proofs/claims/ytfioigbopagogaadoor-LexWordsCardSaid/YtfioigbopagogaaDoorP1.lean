/- Lines of a text, in plain lists. -/
import Derived.Lib.SplitLaws
import Derived.Lib.SlTrimSet
import Derived.Lib.CutLaws
import Derived.WalkKit
namespace Go.Proofs.YtfioigbopagogaaDoor
open Go.RowKit
set_option linter.unusedVariables false
/-- Pieces between bytes d. -/
def pcs (d : UInt8) : List UInt8 → List (List UInt8)
  | [] => [[]]
  | c :: l => if c = d then [] :: pcs d l else (c :: (pcs d l).headD []) :: (pcs d l).tail
theorem pcs_cons (d : UInt8) (l : List UInt8) : ∃ p r, pcs d l = p :: r := by
  cases l with
  | nil => exact ⟨_, _, rfl⟩
  | cons c l => unfold pcs; split <;> exact ⟨_, _, rfl⟩
theorem pcs_ne {d c : UInt8} {l p : List UInt8} {r : List (List UInt8)} (hc : c ≠ d) (h : pcs d l = p :: r) : pcs d (c :: l) = (c :: p) :: r := by
  rw [pcs, if_neg hc, h]; rfl
theorem pcs_eq (d : UInt8) (l : List UInt8) : pcs d (d :: l) = [] :: pcs d l := by rw [pcs, if_pos rfl]
theorem pcs_len (d : UInt8) : ∀ l : List UInt8, (pcs d l).length = l.count d + 1
  | [] => rfl
  | c :: l => by
    have ih := pcs_len d l
    by_cases hc : c = d
    · subst hc; rw [pcs_eq, List.length_cons, ih]; simp
    · obtain ⟨p, r, h⟩ := pcs_cons d l
      rw [pcs_ne hc h, List.count_cons_of_ne (by simpa using hc), List.length_cons, ← ih, h]; rfl
theorem splitK_pcs (d : UInt8) : ∀ l : List UInt8, Lib.splitK [d] 0 (l.count d) l = pcs d l
  | [] => rfl
  | c :: l => by
    have ih := splitK_pcs d l
    by_cases hc : c = d
    · subst hc
      have hix : Lib.index (c :: l) [c] = ((0 : Nat) : Int) := by rw [Lib.index]; simp [List.isPrefixOf]
      rw [List.count_cons_self, pcs_eq, Lib.splitK, hix, if_neg (by decide), ← ih]; rfl
    · rw [List.count_cons_of_ne (by simpa using hc)]
      have hp : ([d] : List UInt8).isPrefixOf (c :: l) = false := by simp [List.isPrefixOf, Ne.symm hc]
      have hix : Lib.index (c :: l) [d] = if Lib.index l [d] == -1 then -1 else Lib.index l [d] + 1 := by rw [Lib.index, hp]; simp
      cases hk : l.count d with
      | zero =>
        rw [hk] at ih
        rw [Lib.splitK, pcs_ne hc (p := l) (r := [])]
        rw [← ih]; rfl
      | succ k =>
        rw [hk] at ih
        have hne : Lib.index l [d] ≠ -1 := fun e => by have := Lib.count_miss e; rw [Lib.count_one] at this; omega
        have hge := Lib.index_ge l [d]
        obtain ⟨j, hj⟩ : ∃ j : Nat, Lib.index l [d] = j := ⟨(Lib.index l [d]).toNat, by omega⟩
        have hix' : Lib.index (c :: l) [d] = ((j + 1 : Nat) : Int) := by rw [hix, if_neg (fun e => hne (beq_iff_eq.1 e)), hj]; omega
        rw [Lib.splitK, hj, if_neg (fun e => by have := beq_iff_eq.1 e; omega)] at ih
        rw [pcs_ne hc ih.symm, Lib.splitK, hix', if_neg (fun e => by have := beq_iff_eq.1 e; omega)]
        simp
theorem pcs_le (d : UInt8) : ∀ (l : List UInt8), ∀ p ∈ pcs d l, p.length ≤ l.length
  | [], p, h => by simp [pcs] at h; subst h; exact Nat.le_refl _
  | c :: l, p, h => by
    obtain ⟨q, r, hq⟩ := pcs_cons d l
    by_cases hc : c = d
    · subst hc
      rw [pcs_eq] at h
      rcases List.mem_cons.1 h with rfl | h
      · simp
      · have := pcs_le c l p h; simp; omega
    · rw [pcs_ne hc hq] at h
      rcases List.mem_cons.1 h with rfl | h
      · have := pcs_le d l q (by rw [hq]; exact List.mem_cons_self); simp; omega
      · have := pcs_le d l p (by rw [hq]; exact List.mem_cons_of_mem _ h); simp; omega
def blanks : List UInt8 := [32, 9, 13]
/-- What a line says, without comments. -/
def saidF (s : List UInt8) : List UInt8 := if Lib.hasPrefix (Lib.trimS s blanks) [35] = true then [] else Lib.trimS (Lib.cut s [59]).1 blanks
def endsF (p : List UInt8) : Bool := Lib.hasSuffix p [92]
def stripF (p : List UInt8) : List UInt8 := Lib.trimSuffix p [92]
/-- The lines, where the text was too long (0: nowhere), the error's number. -/
structure Res where
  l : List (Nat × List UInt8)
  at_ : Nat
  e : Int
deriving DecidableEq
/-- Piece by piece: the piece's number, the line that goes on (its number, its text so far), what is left, the lines so far. -/
def linesS : Nat → Option (Nat × List UInt8) → List (List UInt8) → List (Nat × List UInt8) → Res
  | _, _, [], out => ⟨out, 0, 0⟩
  | i, cur, p :: r, out =>
    if endsF p && !r.isEmpty then linesS (i + 1) (some ((cur.map (·.1)).getD i, (cur.map (·.2)).getD [] ++ stripF p)) r out
    else if saidF ((cur.map (·.2)).getD [] ++ stripF p) = [] then linesS (i + 1) none r out
    else if 4096 < (saidF ((cur.map (·.2)).getD [] ++ stripF p)).length then ⟨[], (cur.map (·.1)).getD i, 2⟩
    else linesS (i + 1) none r (out ++ [((cur.map (·.1)).getD i, saidF ((cur.map (·.2)).getD [] ++ stripF p))])
/-- Behind a piece: its line goes on, or is said. -/
def contF (more : Bool) (i a : Nat) (t : List UInt8) (r : List (List UInt8)) (out : List (Nat × List UInt8)) : Res :=
  if more && !r.isEmpty then linesS i (some (a, t)) r out
  else if saidF t = [] then linesS i none r out
  else if 4096 < (saidF t).length then ⟨[], a, 2⟩
  else linesS i none r (out ++ [(a, saidF t)])
theorem linesS_none (i : Nat) (p : List UInt8) (r : List (List UInt8)) (out : List (Nat × List UInt8)) : linesS i none (p :: r) out = contF (endsF p) (i + 1) i (stripF p) r out := by
  rw [linesS]; rfl
theorem linesS_some (i a : Nat) (t p : List UInt8) (r : List (List UInt8)) (out : List (Nat × List UInt8)) : linesS i (some (a, t)) (p :: r) out = contF (endsF p) (i + 1) a (t ++ stripF p) r out := by
  rw [linesS]; rfl
def linesF (s : List UInt8) : Res := if 65536 < s.length then ⟨[], 0, 2⟩ else linesS 1 none (pcs 10 s) []
theorem sure_lines : linesF [97, 32, 59, 120, 10, 35, 32, 98, 10, 99, 92, 10, 100] = ⟨[(1, [97]), (3, [99, 100])], 0, 0⟩ := by decide
end Go.Proofs.YtfioigbopagogaaDoor
