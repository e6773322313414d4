/- How a law's arguments are opened into the words of the walks; behind the call they read as before. -/
import Derived.Test.YtgocmfjijoibkaaRows
import Derived.Test.YtgocmfjijoibkaaBase
import Derived.ProofKit
import Derived.OpenShut
import Derived.ShutString
import Derived.ChangeOld
import Derived.SizedLaws
import Derived.Lib.SmallJoins
import Derived.Carry
namespace Go.Proofs.Ytgocmfjijoibkaa
open Go.ChangeShapes Go.WideShapes Go.ChangeAt Go.RowKit Go.Joins
theorem laidOut : laidOutB Try.prog = true := by kernel_rfl
theorem wf_i64 {a : Int} (h : (Lit.int .i64 a).wf = true) : -9223372036854775808 ≤ a ∧ a ≤ 9223372036854775807 := by
  simp only [Lit.wf, Bool.and_eq_true, decide_eq_true_eq] at h
  have e1 : IntKind.i64.min = -9223372036854775808 := by decide
  have e2 : IntKind.i64.max = 9223372036854775807 := by decide
  omega
theorem ints_of {H : Type} {enc : TypeId × Value → H} {W : World} {t e : TypeId} {a : Option Addr} {len cap : Nat} {d : DataW H} {p : List MemPlace}
    (ht : Try.prog.underlying t = some (.slice e)) (he : Try.prog.underlying e = some (.int .i64)) (hc : Try.prog.cellsOf e = 1)
    (h : DataW.Trod enc Try.prog W 0 (fun _ => true) true t (.slice a len cap) d p) : ∃ xs, Ints W a len xs := by
  obtain ⟨fuel, hf⟩ := h
  rcases open_ints ht he hc hf with ⟨hcs, _⟩ | ⟨x, l, c, zs, hcs, _, hl, hm, hz, _, hcell, hwz⟩
  · simp [Value.cells] at hcs
    obtain ⟨rfl, rfl, rfl⟩ := hcs
    exact ⟨[], rfl, by omega, fun j hj => by omega, fun h => by omega⟩
  · simp [Value.cells] at hcs
    obtain ⟨rfl, rfl, rfl⟩ := hcs
    have hz' : zs.length = cap := by simpa using hz
    unfold maxLen at hm
    have hg : ∀ j, j < len → (zs.take len).getD j 0 = zs.getD j 0 := fun j hj => by simp [List.getD, hj]
    refine ⟨zs.take len, by simp; omega, by omega, fun j hj => ?_, fun h0 => ⟨x, rfl, ?_, fun j hj => ?_⟩⟩
    · rw [hg j hj]
      have hj' : j < zs.length := by omega
      have e : zs.getD j 0 = zs[j] := by simp [List.getD, hj']
      rw [e]
      exact wf_i64 (hwz _ (List.getElem_mem hj'))
    · exact World.block_lt_of_cell? W _ (hcell 0 (by omega)) |> fun h => by simpa [add_block] using h
    · rw [hg j hj]; exact hcell j (by omega)
end Go.Proofs.Ytgocmfjijoibkaa
