/- Structs and arrays that come in as arguments, opened cell by cell. -/
import Derived.Test.YtgocmfjijoibkaaDoorRows
import Derived.ProofKit
import Derived.OpenShut
import Derived.ChangeOld
import Derived.SizedLaws
import Derived.Carry
namespace Go.Proofs.YtgocmfjijoibkaaDoor
open Go.ChangeShapes Go.WideShapes Go.ChangeAt Go.RowKit
theorem laidOut : laidOutB Tryd.prog = true := by kernel_rfl
section
variable {H : Type} {enc : TypeId × Value → H} {P : Program} {w : World} {base : Nat} {spare : Nat → Bool} {held : Bool}
theorem flat_struct {r : Reach} {b0 : Nat} {t : TypeId} {fs : Array Field} {v : Value} {d : DataW H} {p : List MemPlace} (hs : P.underlying t = some (.struct fs))
    (hv : Value.okWide P w r b0 t v) (h : DataW.Trod enc P w base spare held t v d p) :
    ∃ (cs : Array Value) (n : Nat), v = .agg cs ∧ cs.size = P.cellsOf t ∧ ∀ (i : Nat) (f : Field), fs[i]? = some f → ∃ y, DataW.trod enc P w base spare held n f.type ((cs.toList.drop f.offset).take (P.cellsOf f.type)) = some y := by
  obtain ⟨cs, rfl, hsz⟩ := okWide_struct hs hv
  obtain ⟨fuel, hf⟩ := h
  obtain ⟨xs, n, _, _, _, hl, hx⟩ := DataW.trod_struct hs hf
  refine ⟨cs, n, rfl, hsz, fun i f hi => ?_⟩
  have hi' : i < fs.size := (Array.getElem?_eq_some_iff.1 hi).1
  have h1 := hx i f hi
  rw [List.getElem?_eq_getElem (by omega)] at h1
  exact ⟨_, h1⟩
theorem flat_array {r : Reach} {b0 : Nat} {t e : TypeId} {k : Nat} {v : Value} {d : DataW H} {p : List MemPlace} (hs : P.underlying t = some (.array k e))
    (hv : Value.okWide P w r b0 t v) (h : DataW.Trod enc P w base spare held t v d p) :
    ∃ (cs : Array Value) (n : Nat), v = .agg cs ∧ cs.size = P.cellsOf t ∧ ∀ (i : Nat), i < k → ∃ y, DataW.trod enc P w base spare held n e ((cs.toList.drop (i * P.cellsOf e)).take (P.cellsOf e)) = some y := by
  simp only [Value.okWide, hs] at hv
  obtain ⟨cs, rfl, hsz, _⟩ := hv
  obtain ⟨fuel, hf⟩ := h
  obtain ⟨xs, n, _, _, _, hl, hx⟩ := DataW.trod_array hs hf
  refine ⟨cs, n, rfl, hsz, fun i hi => ?_⟩
  have h1 := hx i hi
  rw [List.getElem?_eq_getElem (by omega)] at h1
  exact ⟨_, h1⟩
theorem one_of {cs : List Value} {o : Nat} {c : Value} (h : (cs.drop o).take 1 = [c]) : cs[o]? = some c := by
  have h1 : ((cs.drop o).take 1)[0]? = some c := by rw [h]; rfl
  simpa using h1
theorem one_int {n : Nat} {cs : List Value} {o c : Nat} {ty : TypeId} {k : IntKind} (hu : P.underlying ty = some (.int k)) (hc : c = 1)
    (h : ∃ y, DataW.trod enc P w base spare held n ty ((cs.drop o).take c) = some y) : ∃ a, cs[o]? = some (.int k a) ∧ (Lit.int k a).wf = true := by
  obtain ⟨y, hy⟩ := h
  subst hc
  obtain ⟨a, e, _, hw⟩ := DataW.trod_int hu hy
  exact ⟨a, one_of e, hw⟩
theorem one_bool {n : Nat} {cs : List Value} {o c : Nat} {ty : TypeId} (hu : P.underlying ty = some .bool) (hc : c = 1)
    (h : ∃ y, DataW.trod enc P w base spare held n ty ((cs.drop o).take c) = some y) : ∃ a, cs[o]? = some (.bool a) := by
  obtain ⟨y, hy⟩ := h
  subst hc
  obtain ⟨a, e, _⟩ := DataW.trod_bool hu hy
  exact ⟨a, one_of e⟩
theorem arr_of {cs : Array Value} {l : List Value} {n : Nat} (hs : cs.size = n) (hl : l.length = n) (h : ∀ i, i < n → cs.toList[i]? = l[i]?) : cs = l.toArray := by
  have e : cs.toList = l := by
    apply List.ext_getElem?
    intro i
    by_cases hi : i < n
    · exact h i hi
    · rw [List.getElem?_eq_none (by simpa using (by omega : cs.size ≤ i)), List.getElem?_eq_none (by omega)]
  rw [← e]
end
end Go.Proofs.YtgocmfjijoibkaaDoor
