/- A heap of events: plain laws. -/
import Derived.Test.YtfbbkeekpkbjhaaDoorR1
namespace Go.Proofs.YtfbbkeekpkbjhaaDoor
open Go.RowKit
def ltE (a b : Ev) : Prop := a.t < b.t ∨ (a.t = b.t ∧ (a.k < b.k ∨ (a.k = b.k ∧ a.d < b.d)))
instance (a b : Ev) : Decidable (ltE a b) := by unfold ltE; infer_instance
theorem due_neg (a b : Ev) : dueF a b < 0 ↔ ltE a b := by
  unfold dueF ltE cmpI
  constructor
  · intro h
    by_cases h1 : a.t < b.t
    · exact Or.inl h1
    · by_cases h2 : b.t < a.t
      · rw [if_neg h1, if_pos h2] at h; simp at h
      · rw [if_neg h1, if_neg h2] at h
        simp only [ne_eq, not_true_eq_false, if_false] at h
        refine Or.inr ⟨by omega, ?_⟩
        by_cases h3 : a.k < b.k
        · exact Or.inl h3
        · by_cases h4 : b.k < a.k
          · rw [if_neg h3, if_pos h4] at h; simp at h
          · rw [if_neg h3, if_neg h4] at h
            simp only [not_true_eq_false, if_false] at h
            refine Or.inr ⟨by omega, ?_⟩
            by_cases h5 : a.d < b.d
            · exact h5
            · rw [if_neg h5] at h; split at h <;> omega
  · rintro (h | ⟨h, h' | ⟨h', h''⟩⟩)
    · rw [if_pos h]; simp
    · simp [h, h']
    · simp [h, h', h'']
theorem ltE_trans {a b c : Ev} (h : ltE a b) (k : ltE b c) : ltE a c := by unfold ltE at *; omega
theorem ltE_asymm {a b : Ev} (h : ltE a b) : ¬ ltE b a := by unfold ltE at *; omega
theorem ltE_total {a b : Ev} (h : ¬ (a.k = b.k ∧ a.d = b.d)) : ltE a b ∨ ltE b a := by unfold ltE; omega
structure MapOk (n : Nat) (f : Nat → Ev) (m : Int → Int → Option Nat) : Prop where
  at_ : ∀ i, i < n → m (f i).k (f i).d = some i
  of_ : ∀ a b v, m a b = some v → v < n ∧ (f v).k = a ∧ (f v).d = b
theorem MapOk.inj {n : Nat} {f : Nat → Ev} {m : Int → Int → Option Nat} (h : MapOk n f m) {i j : Nat} (hi : i < n) (hj : j < n) (e : (f i).k = (f j).k ∧ (f i).d = (f j).d) : i = j := by
  have a := h.at_ i hi
  rw [e.1, e.2, h.at_ j hj] at a
  exact (Option.some.inj a).symm
def swp (f : Nat → Ev) (i k : Nat) : Nat → Ev := fupd (fupd f i (f k)) k (f i)
theorem swp_i {f : Nat → Ev} {i k : Nat} : swp f i k i = f k := by unfold swp fupd; by_cases h : i = k <;> simp [h]
theorem swp_k {f : Nat → Ev} {i k : Nat} : swp f i k k = f i := by unfold swp fupd; simp
theorem swp_o {f : Nat → Ev} {i k j : Nat} (h1 : j ≠ i) (h2 : j ≠ k) : swp f i k j = f j := by unfold swp fupd; simp [h1, h2]
theorem MapOk.swap {n : Nat} {f : Nat → Ev} {m : Int → Int → Option Nat} (h : MapOk n f m) {i k : Nat} (hi : i < n) (hk : k < n) : MapOk n (swp f i k) (mupd (mupd m (f k).k (f k).d i) (f i).k (f i).d k) := by
  refine ⟨fun j hj => ?_, fun a b v hv => ?_⟩
  · by_cases h1 : j = k
    · subst h1; rw [swp_k]; unfold mupd; simp
    · by_cases h2 : j = i
      · subst h2; rw [swp_i]; unfold mupd
        rw [if_neg (fun e => h1 (h.inj hj hk ⟨e.1.symm, e.2.symm⟩)), if_pos ⟨rfl, rfl⟩]
      · rw [swp_o h2 h1]; unfold mupd
        rw [if_neg (fun e => h2 (h.inj hj hi e)), if_neg (fun e => h1 (h.inj hj hk e))]
        exact h.at_ j hj
  · unfold mupd at hv
    split at hv
    · rename_i e; cases hv; rw [swp_k]; exact ⟨hk, e.1.symm, e.2.symm⟩
    · rename_i e1
      split at hv
      · rename_i e; cases hv; rw [swp_i]; exact ⟨hi, e.1.symm, e.2.symm⟩
      · rename_i e2
        obtain ⟨hvn, hva, hvb⟩ := h.of_ a b v hv
        have n1 : v ≠ i := fun e => e1 (by rw [← hva, ← hvb, e]; exact ⟨rfl, rfl⟩)
        have n2 : v ≠ k := fun e => e2 (by rw [← hva, ← hvb, e]; exact ⟨rfl, rfl⟩)
        rw [swp_o n1 n2]; exact ⟨hvn, hva, hvb⟩
def Same (n : Nat) (f g : Nat → Ev) : Prop := ∀ e, (∃ i, i < n ∧ f i = e) ↔ (∃ i, i < n ∧ g i = e)
theorem Same.refl (n : Nat) (f : Nat → Ev) : Same n f f := fun _ => Iff.rfl
theorem Same.trans {n : Nat} {f g h : Nat → Ev} (a : Same n f g) (b : Same n g h) : Same n f h := fun e => (a e).trans (b e)
theorem same_swp {n : Nat} {f : Nat → Ev} {i k : Nat} (hi : i < n) (hk : k < n) : Same n f (swp f i k) := by
  intro e
  constructor
  · rintro ⟨j, hj, rfl⟩
    by_cases h1 : j = i
    · exact ⟨k, hk, by rw [swp_k, h1]⟩
    · by_cases h2 : j = k
      · exact ⟨i, hi, by rw [swp_i, h2]⟩
      · exact ⟨j, hj, swp_o h1 h2⟩
  · rintro ⟨j, hj, rfl⟩
    by_cases h2 : j = k
    · exact ⟨i, hi, by rw [h2, swp_k]⟩
    · by_cases h1 : j = i
      · exact ⟨k, hk, by rw [h1, swp_i]⟩
      · exact ⟨j, hj, (swp_o h1 h2).symm⟩
/-- All is in order but for what is at i. -/
def ExI (n : Nat) (f : Nat → Ev) (i : Nat) : Prop := ∀ c, 0 < c → c < n → (c ≠ i → (c - 1) / 2 ≠ i → ltE (f ((c - 1) / 2)) (f c)) ∧ ((c - 1) / 2 = i → 0 < i → ltE (f ((i - 1) / 2)) (f c))
def DnI (n : Nat) (f : Nat → Ev) (i : Nat) : Prop := ExI n f i ∧ (0 < i → ltE (f ((i - 1) / 2)) (f i))
def Ord (n : Nat) (f : Nat → Ev) : Prop := ∀ c, 0 < c → c < n → ltE (f ((c - 1) / 2)) (f c)
theorem ex_up {n : Nat} {f : Nat → Ev} {m : Int → Int → Option Nat} {i : Nat} (hm : MapOk n f m) (h : ExI n f i) (h0 : 0 < i) (hi : i < n) (hl : ¬ ltE (f ((i - 1) / 2)) (f i)) : ExI n (swp f i ((i - 1) / 2)) ((i - 1) / 2) := by
  have ha : (i - 1) / 2 < i := by omega
  have lt : ltE (f i) (f ((i - 1) / 2)) := by
    rcases ltE_total (a := f i) (b := f ((i - 1) / 2)) (fun e => by have := hm.inj hi (by omega) e; omega) with h' | h'
    · exact h'
    · exact absurd h' hl
  generalize hA : (i - 1) / 2 = a at *
  intro c c0 cn
  refine ⟨fun h1 h2 => ?_, fun h1 h2 => ?_⟩
  · by_cases hci : c = i
    · exact absurd (by rw [hci]; exact hA) h2
    · by_cases hpi : (c - 1) / 2 = i
      · rw [hpi, swp_i, swp_o hci h1]
        have := (h c c0 cn).2 hpi h0
        rwa [hA] at this
      · rw [swp_o hpi h2, swp_o hci h1]
        exact (h c c0 cn).1 hci hpi
  · have pa : (a - 1) / 2 ≠ i := by omega
    have pa' : (a - 1) / 2 ≠ a := by omega
    have ga : ltE (f ((a - 1) / 2)) (f a) := (h a h2 (by omega)).1 (by omega) pa
    rw [swp_o pa pa']
    by_cases hci : c = i
    · rw [hci, swp_i]; exact ga
    · rw [swp_o hci (by omega)]
      have := (h c c0 cn).1 hci (by omega)
      rw [h1] at this
      exact ltE_trans ga this
theorem dn_end {n : Nat} {f : Nat → Ev} {m : Int → Int → Option Nat} {i : Nat} (hm : MapOk n f m) (h : DnI n f i) (h1 : 2 * i + 1 < n → ¬ ltE (f (2 * i + 1)) (f i)) (h2 : 2 * i + 2 < n → ¬ ltE (f (2 * i + 2)) (f i)) : Ord n f := by
  intro c c0 cn
  by_cases hci : c = i
  · subst hci; exact h.2 c0
  · by_cases hp : (c - 1) / 2 = i
    · rw [hp]
      have hin : i < n := by omega
      rcases ltE_total (a := f i) (b := f c) (fun e => by have := hm.inj hin cn e; omega) with h' | h'
      · exact h'
      · rcases (by omega : c = 2 * i + 1 ∨ c = 2 * i + 2) with rfl | rfl
        · exact absurd h' (h1 cn)
        · exact absurd h' (h2 cn)
    · exact (h.1 c c0 cn).1 hci hp
theorem dn_step {n : Nat} {f : Nat → Ev} {m : Int → Int → Option Nat} {i l : Nat} (hm : MapOk n f m) (h : DnI n f i) (hi : i < n) (hl : l < n) (hc : l = 2 * i + 1 ∨ l = 2 * i + 2) (hlt : ltE (f l) (f i)) (hmin : ∀ c, c < n → (c = 2 * i + 1 ∨ c = 2 * i + 2) → ¬ ltE (f c) (f l)) : DnI n (swp f i l) l := by
  have hli : l ≠ i := by omega
  have hp : (l - 1) / 2 = i := by omega
  refine ⟨fun c c0 cn => ⟨fun h1 h2 => ?_, fun h1 h2 => ?_⟩, fun _ => ?_⟩
  · by_cases hci : c = i
    · subst hci
      rw [swp_i, swp_o (by omega) (by omega)]
      exact (h.1 l (by omega) hl).2 hp c0
    · by_cases hpc : (c - 1) / 2 = i
      · rw [hpc, swp_i, swp_o hci h1]
        rcases ltE_total (a := f l) (b := f c) (fun e => by have := hm.inj hl cn e; omega) with h' | h'
        · exact h'
        · exact absurd h' (hmin c cn (by omega))
      · rw [swp_o hpc h2, swp_o hci h1]
        exact (h.1 c c0 cn).1 hci hpc
  · rw [hp, swp_i, swp_o (by omega) (by omega)]
    have := (h.1 c c0 cn).1 (by omega) (by omega)
    rwa [h1] at this
  · rw [hp, swp_i, swp_k]; exact hlt
/-- In order, the first is ahead of all others. -/
theorem Ord.first {n : Nat} {f : Nat → Ev} (h : Ord n f) : ∀ c, 0 < c → c < n → ltE (f 0) (f c) := by
  intro c
  induction c using Nat.strongRecOn with
  | _ c ih =>
    intro c0 cn
    have e := h c c0 cn
    by_cases hp : (c - 1) / 2 = 0
    · rwa [hp] at e
    · exact ltE_trans (ih _ (by omega) (by omega) (by omega)) e
end Go.Proofs.YtfbbkeekpkbjhaaDoor
