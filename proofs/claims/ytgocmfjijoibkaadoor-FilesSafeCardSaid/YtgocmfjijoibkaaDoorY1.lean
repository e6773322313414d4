/- Files as maps. -/
import Derived.Test.YtgocmfjijoibkaaDoorBase
import Derived.Maps.Own
import Derived.Maps.OwnSet
import Derived.Maps.Views
import Derived.StringKeys
namespace Go.Proofs.YtgocmfjijoibkaaDoor
open Go.RowKit
set_option linter.unusedSimpArgs false
set_option linter.unusedVariables false
open Go.Maps Go.WideMaps
/-- A slice of bytes, to be read. -/
def RdY (w : World) (v : Value) (bs : List UInt8) : Prop :=
  (∃ A cap, v = .slice A 0 cap ∧ bs = [] ∧ (A = none → cap = 0)) ∨ ∃ (g o cap : Nat) (cs : Array Value) (fr : Nat × Nat), v = .slice (some ⟨g, o, none⟩) bs.length cap ∧ bs.length ≤ cap ∧ w.heap[g]? = some (Obj.cells cs 5 fr) ∧ o + cap ≤ cs.size ∧ ∀ i, i < bs.length → cs[o + i]? = some (.int .u8 ((bs.getD i 0).toNat : Int))
/-- All rows of bytes and of texts stay as they are. -/
def KeptY (w w' : World) : Prop := w.heap.size ≤ w'.heap.size ∧ ∀ (g : Nat) (cs : Array Value) (t : TypeId) (fr : Nat × Nat), t ≠ 62 → t ≠ 68 → w.heap[g]? = some (Obj.cells cs t fr) → w'.heap[g]? = some (Obj.cells cs t fr)
theorem KeptY.refl (w : World) : KeptY w w := ⟨Nat.le_refl _, fun _ _ _ _ _ _ h => h⟩
theorem KeptY.trans {a b c : World} (h : KeptY a b) (k : KeptY b c) : KeptY a c := ⟨Nat.le_trans h.1 k.1, fun g cs t fr a b e => k.2 g cs t fr a b (h.2 g cs t fr a b e)⟩
theorem KeptY.below {w w1 : World} (h : Below w.heap.size w w1) : KeptY w w1 := ⟨h.size, fun g cs t fr _ _ e => (h.block g (Array.getElem?_eq_some_iff.1 e).1).trans e⟩
theorem KeptY.grown {w w1 : World} {b : Nat} {es : Array MapEntry} {c : Nat} (h : w.grownBy w1 (some b)) (hb : w.heap[b]? = some (.map es c)) : KeptY w w1 := ⟨h.size, fun g cs t fr _ _ e => (h.block g (Array.getElem?_eq_some_iff.1 e).1 (fun k => by cases k; rw [hb] at e; cases e)).trans e⟩
theorem RdY.kept {w w1 : World} {v : Value} {bs : List UInt8} (h : RdY w v bs) (k : KeptY w w1) : RdY w1 v bs := by
  rcases h with h | ⟨g, o, cap, cs, fr, e, h1, h2, h3, h4⟩
  · exact .inl h
  · exact .inr ⟨g, o, cap, cs, fr, e, h1, k.2 g cs 5 fr (by decide) (by decide) h2, h3, h4⟩
theorem RdY.form {w : World} {v : Value} {bs : List UInt8} (h : RdY w v bs) : ∃ A cap, v = .slice A bs.length cap := by
  rcases h with ⟨A, cap, rfl, rfl, _⟩ | ⟨g, o, cap, cs, fr, e, _⟩
  · exact ⟨_, _, rfl⟩
  · exact ⟨_, _, e⟩
theorem RdY.nil (w : World) : RdY w (.slice none 0 0) [] := .inl ⟨none, 0, rfl, rfl, fun _ => rfl⟩
/-- An element of a map, as it is. -/
def rawR (v : Value) : Option (DataW Value × List MemPlace) := some (.held v, [])
abbrev Fl := List UInt8 × List UInt8
def lookF : List Fl → List UInt8 → Option (List UInt8)
  | [], _ => none
  | f :: r, x => if f.1 = x then some f.2 else lookF r x
/-- Files as the document holds them: ascending by their names, each once. -/
def Asc (F : List Fl) : Prop := F.Pairwise fun a b => a.1 < b.1
/-- The map in block b holds the files F. -/
def MapF (w : World) (b : Nat) (F : List Fl) : Prop :=
  ∃ D, w.ownsMap Tryd.prog 9 rawR b (Maps.size D) D ∧ Tidy D ∧ Maps.size D = F.length ∧
    ∀ x, (Maps.has D (.string x) = (lookF F x).isSome) ∧ ∀ bs, lookF F x = some bs → ∃ v, (∀ z, D.atKey (.string x) z = .held v) ∧ RdY w v bs
theorem owns_tight {w : World} {b n : Nat} {D : DataW Value} (h : w.ownsMap Tryd.prog 9 rawR b n D) : w.ownsMap Tryd.prog 9 rawR b (Maps.size D) D := by
  obtain ⟨es, clock, hb, F, hs, rfl⟩ := h
  refine ⟨es, clock, hb, F, ?_, rfl⟩
  rw [Maps.size, length_sorted]; simp
theorem MapF.lt {w : World} {b : Nat} {F : List Fl} (h : MapF w b F) : b < w.heap.size := by obtain ⟨D, h, _⟩ := h; exact h.lt
theorem MapF.new (w : World) : MapF (w.alloc (.map #[] 0)) w.heap.size [] := by
  refine ⟨.map [], World.ownsMap_made w _ 9 rawR, tidy_empty, rfl, fun x => ⟨rfl, fun bs h => by cases h⟩⟩
theorem MapF.kept {w w1 : World} {b : Nat} {F : List Fl} (h : MapF w b F) (hb : w1.heap[b]? = w.heap[b]?) (hk : KeptY w w1) : MapF w1 b F := by
  obtain ⟨D, ⟨es, clock, h0, Ft, hs, hD⟩, ht, hz, hx⟩ := h
  refine ⟨D, ⟨es, clock, hb.trans h0, Ft, hs, hD⟩, ht, hz, fun x => ⟨(hx x).1, fun bs e => ?_⟩⟩
  obtain ⟨v, h1, h2⟩ := (hx x).2 bs e
  exact ⟨v, h1, h2.kept hk⟩
theorem lawS : Keyed Tryd.prog 9 := string_keyed Tryd.underlying9
theorem MapF.len {w : World} {b : Nat} {F : List Fl} (h : MapF w b F) (ty : TypeId) : (Builtin.len_ #[59] ty #[.map (some b)]).run Tryd.prog w = .ok (.int .i64 F.length) w := by
  obtain ⟨D, ho, _, hz, _⟩ := h
  rw [ho.len Tryd.underlying59 ty, hz]
theorem MapF.look {w : World} {b : Nat} {F : List Fl} (h : MapF w b F) (s : ByteArray) (hs : s.size ≤ maxLen) :
    ∃ v, (Instr.lookup 59 (.map (some b)) (.string s) true).run Tryd.prog w = .ok (.tuple #[v, .bool (lookF F s.data.toList).isSome]) w ∧ (Instr.lookup 59 (.map (some b)) (.string s) false).run Tryd.prog w = .ok v w ∧ RdY w v ((lookF F s.data.toList).getD []) := by
  obtain ⟨D, ho, ht, hz, hx⟩ := h
  have hzv : (zeroValue 29).run Tryd.prog w = .ok (.slice none 0 0) w := by kernel_rfl
  have hkey := keyOf_string_mk Tryd.underlying9 hs
  obtain ⟨v, ps, hr, hv⟩ := ho.look_ok lawS Tryd.underlying59 hzv (zd := .held (.slice none 0 0)) (zp := []) rfl hkey
  obtain ⟨v2, ps2, hr2, hv2⟩ := ho.lookup lawS Tryd.underlying59 hzv (zd := .held (.slice none 0 0)) (zp := []) rfl hkey
  have e1 : DataW.held v = D.atKey (.string s.data.toList) (.held (.slice none 0 0)) := by unfold rawR at hv; exact (Prod.mk.inj (Option.some.inj hv)).1
  have e2 : DataW.held v2 = D.atKey (.string s.data.toList) (.held (.slice none 0 0)) := by unfold rawR at hv2; exact (Prod.mk.inj (Option.some.inj hv2)).1
  have hvv : v2 = v := by have := e2.trans e1.symm; exact DataW.held.inj this
  subst hvv
  refine ⟨v2, ?_, hr2, ?_⟩
  · rw [hr, (hx _).1]
  · cases hl : lookF F s.data.toList with
    | none =>
      have := (hx s.data.toList).1
      rw [hl] at this
      rw [atKey_of_not_has this] at e1
      rw [DataW.held.inj e1]
      exact RdY.nil w
    | some bs =>
      obtain ⟨v, h1, h2⟩ := (hx s.data.toList).2 bs hl
      rw [h1] at e1
      rw [DataW.held.inj e1]
      exact h2
end Go.Proofs.YtgocmfjijoibkaaDoor
