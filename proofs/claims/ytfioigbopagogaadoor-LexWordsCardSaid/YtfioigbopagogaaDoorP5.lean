/- Lines that are parted by strokes, in plain lists. -/
import Derived.Test.YtfioigbopagogaaDoorP4
namespace Go.Proofs.YtfioigbopagogaaDoor
open Go.RowKit
set_option linter.unusedVariables false
def lastT : List UInt8 := [108, 97, 115, 116]
theorem said_last : saidF lastT = lastT := by decide
theorem last_no : endsF lastT = false ∧ stripF lastT = lastT := by decide
def strok (ls : List (List UInt8)) : List (List UInt8) := ls.map (· ++ [92])
theorem strokes_some : ∀ (ls : List (List UInt8)) (z : List UInt8) (rest : List (List UInt8)) (i a : Nat) (t : List UInt8) (out : List (Nat × List UInt8)), z.count 92 = 0 →
    linesS i (some (a, t)) (strok ls ++ z :: rest) out = contF false (i + ls.length + 1) a (t ++ (ls.flatten ++ z)) rest out
  | [], z, rest, i, a, t, out, hz => by
    rw [show strok [] ++ z :: rest = z :: rest from rfl, linesS_some, (ends_no hz).1, (ends_no hz).2]; simp
  | l :: r, z, rest, i, a, t, out, hz => by
    have ih := strokes_some r z rest (i + 1) a (t ++ l) out hz
    rw [show strok (l :: r) ++ z :: rest = (l ++ [92]) :: (strok r ++ z :: rest) from rfl, linesS_some, (ends_yes l).1, (ends_yes l).2]
    unfold contF
    rw [if_pos (by simp), ih]
    simp only [List.length_cons, List.flatten_cons, List.append_assoc]
    rw [show i + 1 + r.length + 1 = i + (r.length + 1) + 1 by omega]
    rfl
theorem strokes_none (ls : List (List UInt8)) (z : List UInt8) (rest : List (List UInt8)) (i : Nat) (out : List (Nat × List UInt8)) (hz : z.count 92 = 0) :
    linesS i none (strok ls ++ z :: rest) out = contF false (i + ls.length + 1) i (ls.flatten ++ z) rest out := by
  cases ls with
  | nil => rw [show strok [] ++ z :: rest = z :: rest from rfl, linesS_none, (ends_no hz).1, (ends_no hz).2]; simp
  | cons l r =>
    rw [show strok (l :: r) ++ z :: rest = (l ++ [92]) :: (strok r ++ z :: rest) from rfl, linesS_none, (ends_yes l).1, (ends_yes l).2]
    have ih := strokes_some r z rest (i + 1) i l out hz
    conv => lhs; unfold contF
    rw [if_pos (by simp), ih]
    simp only [List.length_cons, List.flatten_cons, List.append_assoc]
    rw [show i + 1 + r.length + 1 = i + (r.length + 1) + 1 by omega]
theorem lines_blank (n i : Nat) (r : List (List UInt8)) (out : List (Nat × List UInt8)) : linesS i none (List.replicate n [] ++ r) out = linesS (i + n) none r out := by
  induction n generalizing i with
  | zero => rfl
  | succ n ih =>
    rw [List.replicate_succ, List.cons_append, linesS_none]
    unfold contF
    rw [endsEmpty.1, endsEmpty.2, if_neg (by simp), saidEmpty, if_pos rfl, ih (i + 1), show i + 1 + n = i + (n + 1) by omega]
theorem pcs_blank (n : Nat) (y : List UInt8) : pcs 10 (List.replicate n 10 ++ y) = List.replicate n [] ++ pcs 10 y := by
  induction n with
  | zero => rfl
  | succ n ih => rw [List.replicate_succ, List.cons_append, pcs_eq, ih]; rfl
def mF (ls : List (List UInt8)) : List UInt8 := ls.flatMap fun l => l ++ [92, 10]
theorem mF_snoc (ls : List (List UInt8)) (l : List UInt8) : mF (ls ++ [l]) = mF ls ++ (l ++ [92, 10]) := by simp [mF]
theorem pcs_mF : ∀ (ls : List (List UInt8)) (y : List UInt8), (∀ l ∈ ls, Good l) → pcs 10 (mF ls ++ y) = strok ls ++ pcs 10 y
  | [], y, _ => rfl
  | l :: r, y, h => by
    have e : mF (l :: r) ++ y = (l ++ [92]) ++ 10 :: (mF r ++ y) := by simp [mF]
    rw [e, pcs_app (by simp [(h l List.mem_cons_self).1]), pcs_mF r y fun x hx => h x (List.mem_cons_of_mem _ hx)]; rfl
theorem flat_len : ∀ (ls : List (List UInt8)), (∀ l ∈ ls, l.length ≤ 100) → ls.flatten.length ≤ 100 * ls.length
  | [], _ => Nat.le_refl _
  | l :: r, h => by
    have h1 := h l List.mem_cons_self
    have h2 := flat_len r fun x hx => h x (List.mem_cons_of_mem _ hx)
    rw [List.flatten_cons, List.length_append, List.length_cons]; omega
theorem mF_len : ∀ (ls : List (List UInt8)), (∀ l ∈ ls, l.length ≤ 100) → (mF ls).length ≤ 102 * ls.length
  | [], _ => Nat.le_refl _
  | l :: r, h => by
    have e : mF (l :: r) = l ++ [92, 10] ++ mF r := by simp [mF]
    have h1 := h l List.mem_cons_self
    have h2 := mF_len r fun x hx => h x (List.mem_cons_of_mem _ hx)
    rw [e]; simp; omega
theorem flat_count (d : UInt8) : ∀ (ls : List (List UInt8)), (∀ l ∈ ls, l.count d = 0) → ls.flatten.count d = 0
  | [], _ => rfl
  | l :: r, h => by
    rw [List.flatten_cons, List.count_append, h l List.mem_cons_self, flat_count d r fun x hx => h x (List.mem_cons_of_mem _ hx)]
/-- One line, if it says anything. -/
def oneF (n : Nat) (x : List UInt8) : List (Nat × List UInt8) := if saidF x = [] then [] else [(n + 1, saidF x)]
theorem cont_last (i a : Nat) (t : List UInt8) (ht : t.length ≤ 2000) : contF false i (a + 1) t [lastT] [] = ⟨oneF a t ++ [(i, lastT)], 0, 0⟩ := by
  have hend : ∀ out, linesS i none [lastT] out = ⟨out ++ [(i, lastT)], 0, 0⟩ := fun out => by
    rw [linesS_none]
    unfold contF
    rw [last_no.1, last_no.2, if_neg (by simp), said_last, if_neg (by decide), if_neg (by decide)]
    rfl
  have hsl := said_len t
  unfold contF oneF
  rw [if_neg (by simp)]
  split
  · rw [hend]
  · rw [if_neg (by omega), hend]; rfl
/-- LexJoined's law. -/
theorem joined_lines (ls : List (List UInt8)) (z : List UInt8) (n : Nat) (h : ∀ l ∈ ls, Good l ∧ l.length ≤ 100) (hz : Good z ∧ z.length ≤ 100) (hl : ls.length ≤ 19) (hn : n ≤ 5) :
    linesF (List.replicate n 10 ++ (ls.flatten ++ z) ++ 10 :: lastT) = ⟨oneF n (ls.flatten ++ z) ++ [(n + 2, lastT)], 0, 0⟩ ∧
    linesF (List.replicate n 10 ++ (mF ls ++ z) ++ 10 :: lastT) = ⟨oneF n (ls.flatten ++ z) ++ [(n + ls.length + 2, lastT)], 0, 0⟩ := by
  have h1 := flat_len ls fun l hl => (h l hl).2
  have h2 := mF_len ls fun l hl => (h l hl).2
  have hz100 := hz.2
  have hol : (ls.flatten ++ z).length ≤ 2000 := by rw [List.length_append]; omega
  have c10 : (ls.flatten ++ z).count 10 = 0 := by rw [List.count_append, flat_count 10 ls fun l hl => (h l hl).1.1, hz.1.1]
  have c92 : (ls.flatten ++ z).count 92 = 0 := by rw [List.count_append, flat_count 92 ls fun l hl => (h l hl).1.2.1, hz.1.2.1]
  have pl : pcs 10 lastT = [lastT] := by decide
  have ll : (lastT).length = 4 := rfl
  constructor
  · unfold linesF
    rw [if_neg (by rw [List.length_append, List.length_append, List.length_replicate, List.length_cons, ll]; omega), List.append_assoc, pcs_blank, pcs_app c10, pl, lines_blank]
    have := strokes_none [] (ls.flatten ++ z) [lastT] (1 + n) [] c92
    rw [show strok [] ++ (ls.flatten ++ z) :: [lastT] = (ls.flatten ++ z) :: [lastT] from rfl] at this
    rw [this, Nat.add_comm 1 n]
    simp only [List.flatten_nil, List.nil_append, List.length_nil]
    rw [cont_last _ _ _ hol]
  · unfold linesF
    rw [if_neg (by rw [List.length_append, List.length_append, List.length_append, List.length_replicate, List.length_cons, ll]; omega), List.append_assoc, pcs_blank, List.append_assoc, pcs_mF ls _ fun l hl => (h l hl).1, pcs_app hz.1.1, pl, lines_blank, strokes_none ls z [lastT] (1 + n) [] hz.1.2.1, Nat.add_comm 1 n, cont_last _ _ _ hol]
    rw [show n + 1 + ls.length + 1 = n + ls.length + 2 by omega]
end Go.Proofs.YtfioigbopagogaaDoor
