/- What is expanded, in plain lists. -/
import Derived.Lib.SplitLaws
import Derived.WalkKit
namespace Go.Proofs.YtacajmknlknjkaaDoor
open Go.RowKit
set_option linter.unusedVariables false
/-- A macro: its name, its value. -/
structure Mc where
  n : ByteArray
  v : ByteArray
/-- What stands for a name. -/
def valB (L : List Mc) (x : List UInt8) : List UInt8 := if x = [] then [36] else match L.find? (fun m => m.n.data.toList == x) with | some m => m.v.data.toList | none => []
/-- Byte by byte: within marks?, the name so far, what came out. -/
structure Ds where
  i : Bool
  x : List UInt8
  o : List UInt8
def stepB (L : List Mc) (s : Ds) (c : UInt8) : Ds :=
  if c = 36 then (if s.i then ⟨false, s.x, s.o ++ valB L s.x⟩ else ⟨true, [], s.o⟩) else (if s.i then ⟨true, s.x ++ [c], s.o⟩ else ⟨false, s.x, s.o ++ [c]⟩)
def runB (L : List Mc) (s : Ds) (l : List UInt8) : Ds := l.foldl (stepB L) s
def expB (L : List Mc) (l : List UInt8) : List UInt8 := (runB L ⟨false, [], []⟩ l).o
/-- Pieces between marks. -/
def pcs : List UInt8 → List (List UInt8)
  | [] => [[]]
  | c :: l => if c = 36 then [] :: pcs l else (c :: (pcs l).headD []) :: (pcs l).tail
theorem pcs_cons (l : List UInt8) : ∃ p r, pcs l = p :: r := by
  cases l with
  | nil => exact ⟨_, _, rfl⟩
  | cons c l => unfold pcs; split <;> exact ⟨_, _, rfl⟩
theorem pcs_ne {c : UInt8} {l p : List UInt8} {r : List (List UInt8)} (hc : c ≠ 36) (h : pcs l = p :: r) : pcs (c :: l) = (c :: p) :: r := by
  rw [pcs, if_neg hc, h]; rfl
theorem pcs_eq (l : List UInt8) : pcs (36 :: l) = [] :: pcs l := by rw [pcs, if_pos rfl]
theorem pcs_len : ∀ l : List UInt8, (pcs l).length = l.count 36 + 1
  | [] => rfl
  | c :: l => by
    have ih := pcs_len l
    by_cases hc : c = 36
    · subst hc; rw [pcs_eq, List.length_cons, ih]; simp
    · obtain ⟨p, r, h⟩ := pcs_cons l
      rw [pcs_ne hc h, List.count_cons_of_ne (by simpa using hc), List.length_cons, ← ih, h]; rfl
theorem splitK_pcs : ∀ l : List UInt8, Lib.splitK [36] 0 (l.count 36) l = pcs l
  | [] => rfl
  | c :: l => by
    have ih := splitK_pcs l
    by_cases hc : c = 36
    · subst hc
      have hix : Lib.index (36 :: l) [36] = ((0 : Nat) : Int) := by rw [Lib.index]; simp [List.isPrefixOf]
      rw [List.count_cons_self, pcs_eq, Lib.splitK, hix, if_neg (by decide), ← ih]; rfl
    · rw [List.count_cons_of_ne (by simpa using hc)]
      have hp : ([36] : List UInt8).isPrefixOf (c :: l) = false := by simp [List.isPrefixOf, Ne.symm hc]
      have hix : Lib.index (c :: l) [36] = if Lib.index l [36] == -1 then -1 else Lib.index l [36] + 1 := by rw [Lib.index, hp]; simp
      cases hk : l.count 36 with
      | zero =>
        rw [hk] at ih
        rw [Lib.splitK, pcs_ne hc (p := l) (r := [])]
        rw [← ih]; rfl
      | succ k =>
        rw [hk] at ih
        have hne : Lib.index l [36] ≠ -1 := fun e => by have := Lib.count_miss e; rw [Lib.count_one] at this; omega
        have hge := Lib.index_ge l [36]
        obtain ⟨j, hj⟩ : ∃ j : Nat, Lib.index l [36] = j := ⟨(Lib.index l [36]).toNat, by omega⟩
        have hix' : Lib.index (c :: l) [36] = ((j + 1 : Nat) : Int) := by rw [hix, if_neg (fun e => hne (beq_iff_eq.1 e)), hj]; omega
        rw [Lib.splitK, hj, if_neg (fun e => by have := beq_iff_eq.1 e; omega)] at ih
        rw [pcs_ne hc ih.symm, Lib.splitK, hix', if_neg (fun e => by have := beq_iff_eq.1 e; omega)]
        simp
/-- The i-th piece, filled in. -/
def pieceF (L : List Mc) (i : Nat) (p : List UInt8) : List UInt8 := if i % 2 = 1 then valB L p else p
def outN (L : List Mc) (ps : List (List UInt8)) (k n : Nat) : List UInt8 := ((List.range n).map fun i => pieceF L (k + i) (ps.getD i [])).flatten
theorem outN_succ (L : List Mc) (ps : List (List UInt8)) (k n : Nat) : outN L ps k (n + 1) = outN L ps k n ++ pieceF L (k + n) (ps.getD n []) := by
  unfold outN; rw [List.range_succ, List.map_append, List.flatten_append]; simp
theorem outN_cons (L : List Mc) (p : List UInt8) (r : List (List UInt8)) (k n : Nat) : outN L (p :: r) k (n + 1) = pieceF L k p ++ outN L r (k + 1) n := by
  unfold outN
  rw [List.range_succ_eq_map, List.map_cons, List.map_map, List.flatten_cons]
  congr 1
  congr 1
  refine List.map_congr_left fun i _ => ?_
  simp only [Function.comp]
  rw [show k + (i + 1) = k + 1 + i by omega]; rfl
theorem outN_le (L : List Mc) (ps : List (List UInt8)) (k : Nat) {m n : Nat} (h : m ≤ n) : (outN L ps k m).length ≤ (outN L ps k n).length := by
  induction n with
  | zero => obtain rfl : m = 0 := by omega
            exact Nat.le_refl _
  | succ n ih =>
    by_cases e : m = n + 1
    · subst e; exact Nat.le_refl _
    · have := ih (by omega); rw [outN_succ, List.length_append]; omega
theorem outN_two (L : List Mc) (ps : List (List UInt8)) (k n : Nat) : outN L ps (k + 2) n = outN L ps k n := by
  unfold outN
  congr 1
  refine List.map_congr_left fun i _ => ?_
  unfold pieceF
  rw [show k + 2 + i = k + i + 2 by omega, Nat.add_mod_right]
theorem run_pcs (L : List Mc) : ∀ (l x o : List UInt8),
    (l.count 36 % 2 = 0 → (runB L ⟨false, x, o⟩ l).o = o ++ outN L (pcs l) 0 (pcs l).length ∧ (runB L ⟨false, x, o⟩ l).i = false) ∧
    (l.count 36 % 2 = 1 → ∀ p r, pcs l = p :: r → (runB L ⟨true, x, o⟩ l).o = o ++ valB L (x ++ p) ++ outN L r 0 r.length ∧ (runB L ⟨true, x, o⟩ l).i = false)
  | [], x, o => ⟨fun _ => ⟨by simp [runB, pcs, outN, pieceF], rfl⟩, fun h => by simp at h⟩
  | c :: l, x, o => by
    by_cases hc : c = 36
    · subst hc
      obtain ⟨p, r, hp⟩ := pcs_cons l
      have hlen : (36 :: l).count 36 = l.count 36 + 1 := by simp
      refine ⟨fun h => ?_, fun h p' r' h' => ?_⟩
      · obtain ⟨h1, h2⟩ := (run_pcs L l [] o).2 (by omega) p r hp
        have e : runB L ⟨false, x, o⟩ (36 :: l) = runB L ⟨true, [], o⟩ l := rfl
        rw [e, h1, pcs_eq, hp, List.length_cons, List.length_cons, outN_cons, outN_cons, outN_two]
        refine ⟨by simp [pieceF], h2⟩
      · rw [pcs_eq] at h'
        cases h'
        obtain ⟨h1, h2⟩ := (run_pcs L l x (o ++ valB L x)).1 (by omega)
        have e : runB L ⟨true, x, o⟩ (36 :: l) = runB L ⟨false, x, o ++ valB L x⟩ l := rfl
        rw [e, h1]
        exact ⟨by simp, h2⟩
    · obtain ⟨p, r, hp⟩ := pcs_cons l
      have hlen : (c :: l).count 36 = l.count 36 := List.count_cons_of_ne (by simpa using hc)
      rw [hlen, pcs_ne hc hp]
      refine ⟨fun h => ?_, fun h p' r' h' => ?_⟩
      · obtain ⟨h1, h2⟩ := (run_pcs L l x (o ++ [c])).1 h
        have e : runB L ⟨false, x, o⟩ (c :: l) = runB L ⟨false, x, o ++ [c]⟩ l := by simp [runB, stepB, hc]
        rw [e, h1, hp, List.length_cons, List.length_cons, outN_cons, outN_cons]
        refine ⟨by simp [pieceF], h2⟩
      · cases h'
        obtain ⟨h1, h2⟩ := (run_pcs L l (x ++ [c]) o).2 h p r hp
        have e : runB L ⟨true, x, o⟩ (c :: l) = runB L ⟨true, x ++ [c], o⟩ l := by simp [runB, stepB, hc]
        rw [e, h1]
        exact ⟨by simp, h2⟩
/-- What comes out, piece by piece, is what comes out byte by byte. -/
theorem exp_pcs (L : List Mc) (l : List UInt8) (h : l.count 36 % 2 = 0) : expB L l = outN L (pcs l) 0 (pcs l).length := by
  have := ((run_pcs L l [] []).1 h).1
  simpa [expB] using this
theorem stepB_le (L : List Mc) (s : Ds) (c : UInt8) : s.o.length ≤ (stepB L s c).o.length := by
  unfold stepB; split <;> split <;> simp
theorem runB_le (L : List Mc) : ∀ (l : List UInt8) (s : Ds), s.o.length ≤ (runB L s l).o.length
  | [], s => Nat.le_refl _
  | c :: l, s => Nat.le_trans (stepB_le L s c) (runB_le L l (stepB L s c))
theorem runB_app (L : List Mc) (s : Ds) (a b : List UInt8) : runB L s (a ++ b) = runB L (runB L s a) b := by unfold runB; rw [List.foldl_append]
/-- The error's number. -/
def expE (L : List Mc) (l : List UInt8) : Int := if 65536 < l.length then 2 else if l.count 36 % 2 = 1 then 3 else if 65536 < (expB L l).length then 2 else 0
def expO (L : List Mc) (l : List UInt8) : List UInt8 := if expE L l = 0 then expB L l else []
end Go.Proofs.YtacajmknlknjkaaDoor
