/- What the listed variable notify.words gives a walk, and a world that meets it. -/
import Derived.Test.YtjffciejoahegaaDoorRows
import Derived.Test.YtjffciejoahegaaDoorBase
import Derived.ChangeSame
import Derived.ChangeVars
import Derived.JoinedOf
import Derived.RowKit
import Derived.RowKitTokens
import Derived.LaidLaws
import Derived.LaidHandle
import Derived.LaidMore
import Derived.OpenShut
import Derived.ShutString
import Derived.Stop.Joined
import Derived.ProofKit
namespace Go.Proofs.YtjffciejoahegaaDoor
open Go.ChangeShapes Go.WideShapes Go.ChangeAt Go.RowKit
def laidL : List (String × DataW Unit) := [("belvedere/notify.words", Rows.laid_belvedere_notify_words)]
theorem Tryd.own : ownKnob Tryd.prog.godebug = none := by kernel_rfl
theorem gWords : Tryd.prog.globalNamed "belvedere/notify.words" = some 0 := by kernel_rfl
theorem tWords : (Tryd.prog.globals[0]?).map (·.type) = some 57 := by kernel_rfl
/-- The words' table reads as the program's text lays it. -/
def WordsOk (w : World) : Prop :=
  w.cell? ⟨0, 0, none⟩ = some (.string ⟨#[112, 114, 111, 98, 108, 101, 109]⟩) ∧ w.cell? ⟨0, 1, none⟩ = some (.string ⟨#[114, 101, 99, 111, 118, 101, 114, 121]⟩) ∧ w.cell? ⟨0, 2, none⟩ = some (.string ⟨#[102, 108, 97, 112, 115, 116, 97, 114, 116]⟩) ∧
    w.cell? ⟨0, 3, none⟩ = some (.string ⟨#[102, 108, 97, 112, 115, 116, 111, 112]⟩) ∧ w.cell? ⟨0, 4, none⟩ = some (.string ⟨#[99, 117, 115, 116, 111, 109]⟩)
theorem WordsOk.lt {w : World} (h : WordsOk w) : 0 < w.heap.size := World.block_lt_of_cell? w _ h.1
theorem WordsOk.below {w w1 : World} (h : WordsOk w) (hb : Below w.heap.size w w1) : WordsOk w1 :=
  have k := bcell hb
  ⟨(k.1 _ _ h.lt).trans h.1, (k.1 _ _ h.lt).trans h.2.1, (k.1 _ _ h.lt).trans h.2.2.1, (k.1 _ _ h.lt).trans h.2.2.2.1, (k.1 _ _ h.lt).trans h.2.2.2.2⟩
theorem WordsOk.alloc {w : World} (h : WordsOk w) (o : Obj) : WordsOk (w.alloc o) := h.below (below_al (Below.refl _ _) o)
theorem WordsOk.drew {w : World} (h : WordsOk w) : WordsOk w.drew := h
theorem str_of {s : ByteArray} {l : List UInt8} (h : s.data.toList = l) : s = ⟨l.toArray⟩ := by
  obtain ⟨d⟩ := s
  simp at h
  subst h
  rfl
theorem words_of_laid {W : World} (h : laidMetH Tryd.prog laidL W) : WordsOk W := by
  rw [MakeChecks.laidMetH_plain _ _ _ (by kernel_rfl)] at h
  obtain ⟨ps, ⟨g0, t0, cs0, f0, p0, q0, hg0, ht0, hv0, hd0, _, _⟩, _⟩ := h
  obtain rfl := Option.some.inj (gWords.symm.trans hg0)
  obtain rfl := Option.some.inj (tWords.symm.trans ht0)
  obtain ⟨xs, m1, rfl, hx1, hlen, hn5, hel⟩ := DataW.trod_array Tryd.underlying57 hd0
  have c9 : Tryd.prog.cellsOf 9 = 1 := by kernel_rfl
  simp only [Prod.mk.injEq] at hx1
  have key : ∀ j, j < 5 → ∃ s : ByteArray, cs0.toList[j]? = some (.string s) ∧ (xs[j]?).map (·.1) = some (.lit (.string s.data.toList)) := by
    intro j hj
    have hj' := hel j hj
    rw [c9, Nat.mul_one, List.getElem?_eq_getElem (by omega)] at hj'
    obtain ⟨s, e, hx, _⟩ := DataW.trod_string Tryd.underlying9 hj'
    refine ⟨s, ?_, ?_⟩
    · have h1 : ((cs0.toList.drop j).take 1)[0]? = some (.string s) := by rw [e]; rfl
      simpa using h1
    · rw [List.getElem?_eq_getElem (by omega), hx]; rfl
  have hm : xs.map (·.1) = [.lit (.string [112, 114, 111, 98, 108, 101, 109]), .lit (.string [114, 101, 99, 111, 118, 101, 114, 121]), .lit (.string [102, 108, 97, 112, 115, 116, 97, 114, 116]), .lit (.string [102, 108, 97, 112, 115, 116, 111, 112]), .lit (.string [99, 117, 115, 116, 111, 109])] := by
    have := hx1.1
    simpa [Rows.laid_belvedere_notify_words] using this.symm
  have fin : ∀ j l, j < 5 → (xs.map (·.1))[j]? = some (.lit (.string l)) → W.cell? ⟨0, j, none⟩ = some (.string ⟨l.toArray⟩) := by
    intro j l hj hl
    obtain ⟨s, e, hx⟩ := key j hj
    rw [List.getElem?_map, hx] at hl
    have hs : s.data.toList = l := by simpa using hl
    have h2 := World.var?_cell gWords hv0 j
    rw [h2, ← Array.getElem?_toList, e, str_of hs]
  rw [hm] at fin
  exact ⟨fin 0 _ (by decide) rfl, fin 1 _ (by decide) rfl, fin 2 _ (by decide) rfl, fin 3 _ (by decide) rfl, fin 4 _ (by decide) rfl⟩
theorem door_met (os : Os) (args : Array Value) : laidMetH Tryd.prog laidL ((World.doorLaid Tryd.prog 400 os).forCall (fun _ _ => 0) ⟨#[], args, []⟩).memory :=
  laidMetH_of_parts3 (fuel := 8) (laidMet_of_run' 8 (by kernel_rfl) (by kernel_rfl)) (by kernel_rfl) (by kernel_rfl)
theorem wf_i64 {a : Int} (h : (Lit.int .i64 a).wf = true) : -9223372036854775808 ≤ a ∧ a ≤ 9223372036854775807 := by
  simp only [Lit.wf, Bool.and_eq_true, decide_eq_true_eq] at h
  have e1 : IntKind.i64.min = -9223372036854775808 := by decide
  have e2 : IntKind.i64.max = 9223372036854775807 := by decide
  omega
end Go.Proofs.YtjffciejoahegaaDoor
