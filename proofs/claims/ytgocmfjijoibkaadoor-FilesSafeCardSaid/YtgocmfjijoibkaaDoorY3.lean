/- Maps of files: a file more, one less. -/
import Derived.Test.YtgocmfjijoibkaaDoorY2
namespace Go.Proofs.YtgocmfjijoibkaaDoor
open Go.RowKit
set_option linter.unusedSimpArgs false
set_option linter.unusedVariables false
open Go.Maps Go.WideMaps
theorem MapF.upd {w : World} {b : Nat} {F : List Fl} (h : MapF w b F) (hA : Asc F) (hF : F.length < 100000) (s : ByteArray) (hs : s.size ≤ maxLen) (v : Value) (bs : List UInt8) (hv : RdY w v bs) :
    ∃ w', (Instr.mapUpdate 59 (.map (some b)) (.string s) v).run Tryd.prog w = .ok () w' ∧ MapF w' b (withF F (s.data.toList, bs)) ∧ w.grownBy w' (some b) ∧ KeptY w w' := by
  obtain ⟨D, ho, ht, hz, hx⟩ := h
  have hkey := keyOf_string_mk Tryd.underlying9 hs
  obtain ⟨w', hr, ho', hg⟩ := ho.update lawS Tryd.underlying59 (by rw [hz]; unfold maxLen; omega) hkey (d := .held v) (ps := []) rfl
  obtain ⟨es, clock, hb0, _⟩ := ho
  have hk := KeptY.grown hg hb0
  have hL : WideAt.IsKeyLit (.string s.data.toList) := trivial
  refine ⟨w', hr, ⟨D.put (.string s.data.toList) (.held v), owns_tight ho', ht.put hL _, ?_, fun x => ⟨?_, fun bs2 e => ?_⟩⟩, hg, hk⟩
  · rw [size_put ht, (hx _).1, with_len hA, hz]
  · rw [lookF_with]
    by_cases hxs : x = s.data.toList
    · subst hxs; rw [if_pos rfl, has_put_same ht.isMap hL]; rfl
    · rw [if_neg hxs, has_put_other (by simpa using hxs)]; exact (hx x).1
  · rw [lookF_with] at e
    by_cases hxs : x = s.data.toList
    · subst hxs
      rw [if_pos rfl] at e
      cases e
      exact ⟨v, fun z => atKey_put_same ht.isMap hL _ _, hv.kept hk⟩
    · rw [if_neg hxs] at e
      obtain ⟨v2, h1, h2⟩ := (hx x).2 bs2 e
      exact ⟨v2, fun z => by rw [atKey_put_other (by simpa using hxs)]; exact h1 z, h2.kept hk⟩
theorem MapF.del {w : World} {b : Nat} {F : List Fl} (h : MapF w b F) (hA : Asc F) (s : ByteArray) (hs : s.size ≤ maxLen) :
    ∃ w', (∀ ty, (Builtin.delete_ #[59, 9] ty #[.map (some b), .string s]).run Tryd.prog w = .ok (.tuple #[]) w') ∧ MapF w' b (withoutF F s.data.toList) ∧ w.grownBy w' (some b) ∧ KeptY w w' := by
  obtain ⟨D, ho, ht, hz, hx⟩ := h
  have hkey := keyOf_string_mk Tryd.underlying9 hs
  obtain ⟨es, clock, hb0, F0, hsz, hD⟩ := id ho
  obtain ⟨es', hrun0, F', hle, hdel, _⟩ := Maps.fit_drop (ty := 0) lawS Tryd.underlying59 hb0 F0 hkey
  obtain ⟨w', hr, ho', hg⟩ := ho.drop lawS Tryd.underlying59 hkey 0
  have hall : ∀ ty, (Builtin.delete_ #[59, 9] ty #[.map (some b), .string s]).run Tryd.prog w = .ok (.tuple #[]) w' := fun ty => by
    obtain ⟨w2, hr2, _, _⟩ := ho.drop lawS Tryd.underlying59 hkey ty
    have e : (Builtin.delete_ #[59, 9] ty #[.map (some b), .string s]) = (Builtin.delete_ #[59, 9] 0 #[.map (some b), .string s]) := rfl
    rw [e]; exact hr
  have hk := KeptY.grown hg.grown hb0
  refine ⟨w', hall, ⟨D.del (.string s.data.toList), owns_tight ho', ht.del _, ?_, fun x => ⟨?_, fun bs2 e => ?_⟩⟩, hg.grown, hk⟩
  · have h1 := size_del (k := .string s.data.toList) ht
    have h2 := without_len hA s.data.toList
    rw [(hx _).1] at h1
    omega
  · rw [lookF_without]
    by_cases hxs : x = s.data.toList
    · subst hxs; rw [if_pos rfl, has_del_same]; rfl
    · rw [if_neg hxs, has_del_other (by simpa using hxs)]; exact (hx x).1
  · rw [lookF_without] at e
    by_cases hxs : x = s.data.toList
    · rw [if_pos hxs] at e; cases e
    · rw [if_neg hxs] at e
      obtain ⟨v2, h1, h2⟩ := (hx x).2 bs2 e
      exact ⟨v2, fun z => by rw [atKey_del_other (by simpa using hxs)]; exact h1 z, h2.kept hk⟩
/-- A name's byte; a name. -/
def okB (c : UInt8) : Bool := (decide (97 ≤ c.toNat) && decide (c.toNat ≤ 122)) || (decide (48 ≤ c.toNat) && decide (c.toNat ≤ 57)) || decide (c.toNat = 46) || decide (c.toNat = 45)
def namedF (s : List UInt8) : Bool := s.all okB && decide (0 < s.length) && decide (s.length ≤ 32)
end Go.Proofs.YtgocmfjijoibkaaDoor
