/- The queue's map as a list of entries. -/
import Derived.Test.YtfbbkeekpkbjhaaDoorBase
namespace Go.Proofs.YtfbbkeekpkbjhaaDoor
open Go.RowKit
/-- An entry of the queue's map: a key (kind, id), the place, when it was laid. -/
structure KE where
  a : Int
  b : Int
  v : Nat
  c : Nat
def keyV (a b : Int) : Value := .agg #[.int .i64 a, .int .i64 b]
def entOf (e : KE) : MapEntry := { key := keyV e.a e.b, val := .int .i64 e.v, born := e.c }
def findL (a b : Int) : List KE → Nat → Option (Nat × Value)
  | [], _ => none
  | e :: es, i => if a = e.a ∧ b = e.b then some (i, .int .i64 e.v) else findL a b es (i + 1)
theorem findL_some {a b : Int} : ∀ {L : List KE} {i j : Nat} {x : Value}, findL a b L i = some (j, x) → ∃ k e, j = i + k ∧ L[k]? = some e ∧ a = e.a ∧ b = e.b ∧ x = .int .i64 e.v
  | [], _, _, _, h => by simp [findL] at h
  | e :: es, i, j, x, h => by
    rw [findL] at h
    split at h
    · rename_i hk
      cases h
      exact ⟨0, e, rfl, rfl, hk.1, hk.2, rfl⟩
    · obtain ⟨k, e', h1, h2, h3⟩ := findL_some h
      exact ⟨k + 1, e', by omega, by simpa using h2, h3⟩
theorem findL_none {a b : Int} : ∀ {L : List KE} {i : Nat}, findL a b L i = none → ∀ (k : Nat) (e : KE), L[k]? = some e → ¬ (a = e.a ∧ b = e.b)
  | [], _, _, k, e, he => by simp at he
  | x :: es, i, h, k, e, he => by
    rw [findL] at h
    split at h
    · cases h
    · rename_i hk
      cases k with
      | zero => simp at he; subst he; exact hk
      | succ k => exact findL_none h k e (by simpa using he)
structure MapIs (L : List KE) (m : Int → Int → Option Nat) : Prop where
  inj : ∀ (i j : Nat) (e e' : KE), L[i]? = some e → L[j]? = some e' → e.a = e'.a → e.b = e'.b → i = j
  look : ∀ a b (v : Nat), m a b = some v ↔ ∃ (j : Nat) (e : KE), L[j]? = some e ∧ e.a = a ∧ e.b = b ∧ e.v = v
theorem MapIs.find_some {L : List KE} {m : Int → Int → Option Nat} (h : MapIs L m) {a b : Int} {v : Nat} (hm : m a b = some v) : ∃ k e, findL a b L 0 = some (k, .int .i64 v) ∧ L[k]? = some e ∧ e.a = a ∧ e.b = b := by
  cases hf : findL a b L 0 with
  | none =>
    obtain ⟨j, e, h1, h2, h3, _⟩ := (h.look a b v).1 hm
    exact absurd ⟨h2.symm, h3.symm⟩ (findL_none hf j e h1)
  | some x =>
    obtain ⟨j, x⟩ := x
    obtain ⟨k, e, h1, h2, h3, h4, h5⟩ := findL_some hf
    obtain rfl : j = k := by omega
    have : m a b = some e.v := (h.look a b e.v).2 ⟨j, e, h2, h3.symm, h4.symm, rfl⟩
    rw [hm] at this
    cases this
    exact ⟨j, e, by rw [h5], h2, h3.symm, h4.symm⟩
theorem MapIs.find_none {L : List KE} {m : Int → Int → Option Nat} (h : MapIs L m) {a b : Int} (hm : m a b = none) : findL a b L 0 = none := by
  cases hf : findL a b L 0 with
  | none => rfl
  | some x =>
    obtain ⟨j, x⟩ := x
    obtain ⟨k, e, h1, h2, h3, h4, h5⟩ := findL_some hf
    have : m a b = some e.v := (h.look a b e.v).2 ⟨k, e, h2, h3.symm, h4.symm, rfl⟩
    rw [hm] at this; cases this
def mupd (m : Int → Int → Option Nat) (a b : Int) (v : Nat) : Int → Int → Option Nat := fun x y => if x = a ∧ y = b then some v else m x y
def mdel (m : Int → Int → Option Nat) (a b : Int) : Int → Int → Option Nat := fun x y => if x = a ∧ y = b then none else m x y
theorem MapIs.set {L : List KE} {m : Int → Int → Option Nat} (h : MapIs L m) {a b : Int} {k : Nat} {e : KE} (he : L[k]? = some e) (ha : e.a = a) (hb : e.b = b) (v : Nat) : MapIs (L.set k { e with v := v }) (mupd m a b v) := by
  have hk : k < L.length := (List.getElem?_eq_some_iff.1 he).1
  have key : ∀ (j : Nat) (x : KE), (L.set k { e with v := v })[j]? = some x → ∃ y, L[j]? = some y ∧ y.a = x.a ∧ y.b = x.b ∧ (j = k → x.v = v) ∧ (j ≠ k → y = x) := by
    intro j x hx
    rw [List.getElem?_set] at hx
    split at hx
    · rename_i hjk; subst hjk
      simp at hx
      subst hx
      exact ⟨e, he, rfl, rfl, fun _ => rfl, fun h => absurd rfl h⟩
    · rename_i hjk
      exact ⟨x, hx, rfl, rfl, fun e => absurd e.symm hjk, fun _ => rfl⟩
  refine ⟨fun i j x y hx hy h1 h2 => ?_, fun a' b' v' => ?_⟩
  · obtain ⟨x', e1, e2, e3, _⟩ := key i x hx
    obtain ⟨y', f1, f2, f3, _⟩ := key j y hy
    exact h.inj i j x' y' e1 f1 (by rw [e2, f2, h1]) (by rw [e3, f3, h2])
  · unfold mupd
    split
    · rename_i hab
      constructor
      · intro hv
        cases hv
        exact ⟨k, { e with v := v }, by rw [List.getElem?_set]; simp [hk], by simp [ha, hab.1], by simp [hb, hab.2], rfl⟩
      · rintro ⟨j, x, hx, x1, x2, x3⟩
        obtain ⟨y, f1, f2, f3, f4, f5⟩ := key j x hx
        have hjk : j = k := h.inj j k y e f1 he (by rw [f2, x1, hab.1, ha]) (by rw [f3, x2, hab.2, hb])
        rw [← x3, f4 hjk]
    · rename_i hab
      rw [h.look]
      constructor
      · rintro ⟨j, x, hx, x1, x2, x3⟩
        have hjk : j ≠ k := fun hjk => by
          subst hjk; rw [he] at hx; cases hx
          exact hab ⟨by rw [← x1, ha], by rw [← x2, hb]⟩
        exact ⟨j, x, by rw [List.getElem?_set_ne (Ne.symm hjk)]; exact hx, x1, x2, x3⟩
      · rintro ⟨j, x, hx, x1, x2, x3⟩
        obtain ⟨y, f1, f2, f3, f4, f5⟩ := key j x hx
        have hjk : j ≠ k := fun hjk => by
          subst hjk; rw [he] at f1; cases f1
          exact hab ⟨by rw [← x1, ← f2, ha], by rw [← x2, ← f3, hb]⟩
        rw [f5 hjk] at f1
        exact ⟨j, x, f1, x1, x2, x3⟩
theorem MapIs.push {L : List KE} {m : Int → Int → Option Nat} (h : MapIs L m) {a b : Int} (hm : m a b = none) (v c : Nat) : MapIs (L ++ [⟨a, b, v, c⟩]) (mupd m a b v) := by
  have no : ∀ (j : Nat) (e : KE), L[j]? = some e → ¬ (e.a = a ∧ e.b = b) := fun j e he hab => by
    have := (h.look a b e.v).2 ⟨j, e, he, hab.1, hab.2, rfl⟩
    rw [hm] at this; cases this
  have key : ∀ (j : Nat) (x : KE), (L ++ [⟨a, b, v, c⟩])[j]? = some x → (L[j]? = some x) ∨ (j = L.length ∧ x = ⟨a, b, v, c⟩) := by
    intro j x hx
    by_cases hj : j < L.length
    · rw [List.getElem?_append_left hj] at hx; exact Or.inl hx
    · rw [List.getElem?_append_right (by omega)] at hx
      by_cases hj2 : j = L.length
      · subst hj2; simp at hx; exact Or.inr ⟨rfl, hx.symm⟩
      · rw [List.getElem?_eq_none (by simp; omega)] at hx; cases hx
  refine ⟨fun i j x y hx hy h1 h2 => ?_, fun a' b' v' => ?_⟩
  · rcases key i x hx with hx | ⟨hi, rfl⟩ <;> rcases key j y hy with hy | ⟨hj, rfl⟩
    · exact h.inj i j x y hx hy h1 h2
    · exact absurd ⟨h1, h2⟩ (no i x hx)
    · exact absurd ⟨h1.symm, h2.symm⟩ (no j y hy)
    · omega
  · unfold mupd
    split
    · rename_i hab
      constructor
      · intro hv; cases hv
        exact ⟨L.length, ⟨a, b, v, c⟩, by simp, hab.1.symm, hab.2.symm, rfl⟩
      · rintro ⟨j, x, hx, x1, x2, x3⟩
        rcases key j x hx with hx | ⟨hi, rfl⟩
        · exact absurd ⟨x1.trans hab.1, x2.trans hab.2⟩ (no j x hx)
        · rw [← x3]
    · rename_i hab
      rw [h.look]
      constructor
      · rintro ⟨j, x, hx, r⟩
        exact ⟨j, x, by rw [List.getElem?_append_left (List.getElem?_eq_some_iff.1 hx).1]; exact hx, r⟩
      · rintro ⟨j, x, hx, x1, x2, x3⟩
        rcases key j x hx with hx | ⟨hi, rfl⟩
        · exact ⟨j, x, hx, x1, x2, x3⟩
        · exact absurd ⟨x1.symm, x2.symm⟩ hab
theorem MapIs.erase {L : List KE} {m : Int → Int → Option Nat} (h : MapIs L m) {a b : Int} {k : Nat} {e : KE} (he : L[k]? = some e) (ha : e.a = a) (hb : e.b = b) : MapIs (L.eraseIdx k) (mdel m a b) := by
  have key : ∀ (j : Nat), (L.eraseIdx k)[j]? = L[if j < k then j else j + 1]? := fun j => by
    rw [List.getElem?_eraseIdx]; split <;> rfl
  refine ⟨fun i j x y hx hy h1 h2 => ?_, fun a' b' v' => ?_⟩
  · rw [key] at hx hy
    have := h.inj _ _ x y hx hy h1 h2
    split at this <;> split at this <;> omega
  · unfold mdel
    split
    · rename_i hab
      constructor
      · intro hv; cases hv
      · rintro ⟨j, x, hx, x1, x2, x3⟩
        rw [key] at hx
        have := h.inj _ _ x e hx he (by rw [x1, hab.1, ha]) (by rw [x2, hab.2, hb])
        split at this <;> omega
    · rename_i hab
      rw [h.look]
      constructor
      · rintro ⟨j, x, hx, x1, x2, x3⟩
        have hjk : j ≠ k := fun hjk => by
          subst hjk; rw [he] at hx; cases hx
          exact hab ⟨by rw [← x1, ha], by rw [← x2, hb]⟩
        by_cases hlt : j < k
        · exact ⟨j, x, by rw [key, if_pos hlt]; exact hx, x1, x2, x3⟩
        · exact ⟨j - 1, x, by rw [key, if_neg (by omega), show j - 1 + 1 = j by omega]; exact hx, x1, x2, x3⟩
      · rintro ⟨j, x, hx, r⟩
        rw [key] at hx
        exact ⟨_, x, hx, r⟩
end Go.Proofs.YtfbbkeekpkbjhaaDoor
