/- The plain laws of ways: what leads where, which lead back, the order and the depths. -/
import Derived.Test.YtbnnbhblfclomaaDoorBase
namespace Go.Proofs.YtbnnbhblfclomaaDoor
open Go.RowKit
/-- Ways, each from a place to a place. -/
abbrev Ways := List (Nat × Nat)
inductive Rch (E : Ways) : Nat → Nat → Prop
  | refl (x : Nat) : Rch E x x
  | tail {x y z : Nat} : Rch E x y → (y, z) ∈ E → Rch E x z
theorem Rch.head {E : Ways} {x y z : Nat} (h : (x, y) ∈ E) (k : Rch E y z) : Rch E x z := by
  induction k with
  | refl => exact .tail (.refl x) h
  | tail _ e ih => exact .tail ih e
theorem Rch.trans {E : Ways} {x y z : Nat} (h : Rch E x y) (k : Rch E y z) : Rch E x z := by
  induction k with
  | refl => exact h
  | tail _ e ih => exact .tail ih e
theorem Rch.closed {E : Ways} (S : Nat → Prop) (hS : ∀ a b, (a, b) ∈ E → S a → S b) {x y : Nat} (h : Rch E x y) (hx : S x) : S y := by
  induction h with
  | refl => exact hx
  | tail _ e ih => exact hS _ _ e ih
theorem Rch.mono {E F : Ways} (hs : ∀ p, p ∈ E → p ∈ F) {x y : Nat} (h : Rch E x y) : Rch F x y := by
  induction h with
  | refl => exact .refl _
  | tail _ e ih => exact .tail ih (hs _ e)
def Plus (E : Ways) (x z : Nat) : Prop := ∃ y, (x, y) ∈ E ∧ Rch E y z
def Cyc (E : Ways) (x : Nat) : Prop := Plus E x x
def Acyc (E : Ways) : Prop := ∀ x, ¬ Cyc E x
theorem Plus.tail {E : Ways} {x y z : Nat} (h : Plus E x y) (k : (y, z) ∈ E) : Plus E x z := by
  obtain ⟨b, e, r⟩ := h
  exact ⟨b, e, .tail r k⟩
theorem Plus.rch {E : Ways} {x z : Nat} (h : Plus E x z) : Rch E x z := by
  obtain ⟨b, e, r⟩ := h
  exact .head e r
theorem Rch.plus {E : Ways} {x y z : Nat} (h : Rch E x y) (k : (y, z) ∈ E) : Plus E x z := by
  induction h generalizing z with
  | refl => exact ⟨z, k, .refl z⟩
  | tail _ e ih => exact (ih e).tail k
theorem rch_iff {E : Ways} {x z : Nat} : Rch E x z ↔ x = z ∨ Plus E x z := by
  constructor
  · intro h
    cases h with
    | refl => exact .inl rfl
    | tail h e => exact .inr (h.plus e)
  · rintro (rfl | h)
    · exact .refl _
    · exact h.rch
theorem plus_iff {E : Ways} {x z : Nat} : Plus E x z ↔ ∃ y, Rch E x y ∧ (y, z) ∈ E := by
  constructor
  · rintro ⟨b, e, r⟩
    cases r with
    | refl => exact ⟨x, .refl x, e⟩
    | tail r k => exact ⟨_, .head e r, k⟩
  · rintro ⟨y, r, e⟩
    exact r.plus e
/-- All places that a way leads to from x, in the ways' order. -/
def sideL (E : Ways) (x : Nat) : List Nat := (E.filter (fun e => e.1 == x)).map (·.2)
theorem mem_sideL {E : Ways} {x y : Nat} : y ∈ sideL E x ↔ (x, y) ∈ E := by
  unfold sideL
  simp only [List.mem_map, List.mem_filter, beq_iff_eq]
  constructor
  · rintro ⟨⟨a, b⟩, ⟨h1, h2⟩, h3⟩
    simp only at h2 h3
    subst h2 h3; exact h1
  · intro h; exact ⟨(x, y), ⟨h, rfl⟩, rfl⟩
theorem sideL_snoc (E : Ways) (a b x : Nat) : sideL (E ++ [(a, b)]) x = if a = x then sideL E x ++ [b] else sideL E x := by
  unfold sideL
  by_cases h : a = x
  · simp [List.filter_append, h]
  · simp [List.filter_append, h]
theorem sideL_len (E : Ways) (x : Nat) : (sideL E x).length ≤ E.length := by
  unfold sideL; rw [List.length_map]; exact List.length_filter_le _ _
def updB (s : Nat → Bool) (x : Nat) : Nat → Bool := fun y => if y = x then true else s y
theorem updB_self (s : Nat → Bool) (x : Nat) : updB s x x = true := by simp [updB]
theorem updB_ne (s : Nat → Bool) {x y : Nat} (h : y ≠ x) : updB s x y = s y := by simp [updB, h]
theorem updB_iff (s : Nat → Bool) (x y : Nat) : updB s x y = true ↔ y = x ∨ s y = true := by
  unfold updB; split <;> simp_all
/-- What holds while marks are set. -/
structure MkInv (E : Ways) (S : List Nat) (seen : Nat → Bool) (wait : List Nat) : Prop where
  sound : ∀ y, seen y = true ∨ y ∈ wait → ∃ s ∈ S, Rch E s y
  cover : ∀ s ∈ S, seen s = true ∨ s ∈ wait
  closed : ∀ a b, (a, b) ∈ E → seen a = true → seen b = true ∨ b ∈ wait
theorem MkInv.init (E : Ways) (S : List Nat) : MkInv E S (fun _ => false) S :=
  ⟨fun y h => by rcases h with h | h; exact absurd h (by simp); exact ⟨y, h, .refl y⟩, fun s h => .inr h, fun a b _ h => absurd h (by simp)⟩
theorem MkInv.drop {E : Ways} {S : List Nat} {seen : Nat → Bool} {wait : List Nat} {x : Nat} (h : MkInv E S seen (wait ++ [x])) (hx : seen x = true) : MkInv E S seen wait := by
  obtain ⟨h1, h2, h3⟩ := h
  refine ⟨fun y hy => h1 y (hy.imp id (fun k => by simp [k])), fun s hs => ?_, fun a b e ha => ?_⟩
  · rcases h2 s hs with k | k
    · exact .inl k
    · rcases List.mem_append.1 k with k | k
      · exact .inr k
      · rw [List.mem_singleton] at k; subst k; exact .inl hx
  · rcases h3 a b e ha with k | k
    · exact .inl k
    · rcases List.mem_append.1 k with k | k
      · exact .inr k
      · rw [List.mem_singleton] at k; subst k; exact .inl hx
theorem MkInv.mark {E : Ways} {S : List Nat} {seen : Nat → Bool} {wait : List Nat} {x : Nat} (h : MkInv E S seen (wait ++ [x])) : MkInv E S (updB seen x) (wait ++ sideL E x) := by
  obtain ⟨h1, h2, h3⟩ := h
  refine ⟨fun y hy => ?_, fun s hs => ?_, fun a b e ha => ?_⟩
  · rcases hy with hy | hy
    · rcases (updB_iff _ _ _).1 hy with rfl | hy
      · exact h1 y (.inr (by simp))
      · exact h1 y (.inl hy)
    · rcases List.mem_append.1 hy with k | k
      · exact h1 y (.inr (by simp [k]))
      · obtain ⟨s, hs, r⟩ := h1 x (.inr (by simp))
        exact ⟨s, hs, .tail r (mem_sideL.1 k)⟩
  · rcases h2 s hs with k | k
    · exact .inl ((updB_iff _ _ _).2 (.inr k))
    · rcases List.mem_append.1 k with k | k
      · exact .inr (by simp [k])
      · rw [List.mem_singleton] at k; exact .inl ((updB_iff _ _ _).2 (.inl k))
  · rcases (updB_iff _ _ _).1 ha with rfl | ha
    · exact .inr (by simp [mem_sideL.2 e])
    · rcases h3 a b e ha with k | k
      · exact .inl ((updB_iff _ _ _).2 (.inr k))
      · rcases List.mem_append.1 k with k | k
        · exact .inr (by simp [k])
        · rw [List.mem_singleton] at k; exact .inl ((updB_iff _ _ _).2 (.inl k))
theorem MkInv.done {E : Ways} {S : List Nat} {seen : Nat → Bool} (h : MkInv E S seen []) (y : Nat) : seen y = true ↔ ∃ s ∈ S, Rch E s y := by
  obtain ⟨h1, h2, h3⟩ := h
  constructor
  · intro k; exact h1 y (.inl k)
  · rintro ⟨s, hs, r⟩
    refine r.closed (fun z => seen z = true) (fun a b e ha => ?_) ?_
    · simpa using h3 a b e ha
    · simpa using h2 s hs
/-- Ways that begin where no mark is. -/
def openW (E : Ways) (seen : Nat → Bool) : Nat := E.countP (fun e => !seen e.1)
theorem openW_mark (E : Ways) (seen : Nat → Bool) (x : Nat) (hx : seen x = false) : openW E (updB seen x) + (sideL E x).length = openW E seen := by
  unfold openW sideL
  induction E with
  | nil => rfl
  | cons e r ih =>
    by_cases h : e.1 = x
    · have h1 : updB seen x e.1 = true := by rw [h]; exact updB_self _ _
      have h2 : seen e.1 = false := by rw [h]; exact hx
      have h3 : List.filter (fun e : Nat × Nat => e.1 == x) (e :: r) = e :: List.filter (fun e => e.1 == x) r := List.filter_cons_of_pos (by simp [h])
      rw [List.countP_cons_of_neg (by simp [h1]), List.countP_cons_of_pos (by simp [h2]), h3, List.map_cons, List.length_cons]
      omega
    · have h1 : updB seen x e.1 = seen e.1 := updB_ne _ h
      have h3 : List.filter (fun e : Nat × Nat => e.1 == x) (e :: r) = List.filter (fun e => e.1 == x) r := List.filter_cons_of_neg (by simp [h])
      rw [h3]
      by_cases h2 : seen e.1 = true
      · rw [List.countP_cons_of_neg (by simp [h1, h2]), List.countP_cons_of_neg (by simp [h2])]; exact ih
      · rw [List.countP_cons_of_pos (by simp [h1, h2]), List.countP_cons_of_pos (by simp [h2])]; omega
theorem openW_le (E : Ways) (seen : Nat → Bool) : openW E seen ≤ E.length := List.countP_le_length
theorem openW_init (E : Ways) : openW E (fun _ => false) = E.length := by unfold openW; simp
/-- How many of the first n. -/
def cnt (n : Nat) (p : Nat → Bool) : Nat := (List.range n).countP p
theorem cnt_le (n : Nat) (p : Nat → Bool) : cnt n p ≤ n := by
  have := List.countP_le_length (p := p) (l := List.range n)
  rw [List.length_range] at this; exact this
theorem cnt_succ (n : Nat) (p : Nat → Bool) : cnt (n + 1) p = cnt n p + if p n = true then 1 else 0 := by
  unfold cnt; rw [List.range_succ, List.countP_append]; simp [List.countP_cons]
theorem cnt_mono {n : Nat} {p q : Nat → Bool} (h : ∀ x, x < n → p x = true → q x = true) : cnt n p ≤ cnt n q := by
  induction n with
  | zero => simp [cnt]
  | succ n ih =>
    rw [cnt_succ, cnt_succ]
    have := ih (fun x hx => h x (by omega))
    have := h n (by omega)
    split <;> split <;> simp_all <;> omega
theorem cnt_lt {n : Nat} {p q : Nat → Bool} (h : ∀ x, x < n → p x = true → q x = true) {z : Nat} (hz : z < n) (hp : p z = false) (hq : q z = true) : cnt n p < cnt n q := by
  induction n with
  | zero => omega
  | succ n ih =>
    rw [cnt_succ, cnt_succ]
    by_cases e : z = n
    · subst e
      have := cnt_mono (n := z) (p := p) (q := q) (fun x hx => h x (by omega))
      simp [hp, hq]; omega
    · have h1 := ih (fun x hx => h x (by omega)) (by omega)
      have := h n (by omega)
      split <;> split <;> simp_all <;> omega
theorem cnt_full {n : Nat} {p : Nat → Bool} (h : cnt n p = n) {x : Nat} (hx : x < n) : p x = true := by
  by_cases hp : p x = true
  · exact hp
  · have h1 := cnt_lt (n := n) (p := p) (q := fun _ => true) (fun _ _ _ => rfl) hx (by simpa using hp) rfl
    have h2 := cnt_le n (fun _ => true)
    omega
theorem cnt_add_one {n : Nat} (p : Nat → Bool) {z : Nat} (hz : z < n) (hp : p z = false) : cnt n (updB p z) = cnt n p + 1 := by
  induction n with
  | zero => omega
  | succ n ih =>
    rw [cnt_succ, cnt_succ]
    by_cases e : z = n
    · subst e
      have : cnt z (updB p z) = cnt z p := by
        unfold cnt
        apply List.countP_congr
        intro x hx
        rw [List.mem_range] at hx
        rw [updB_ne _ (by omega)]
      rw [this, updB_self, hp]; simp
    · rw [ih (by omega), updB_ne _ (by omega)]; omega
/-- One round over all ways: what a marked place, or the begin, leads to is marked. -/
def relax1 (f : Nat) (t : Nat → Bool) (e : Nat × Nat) : Nat → Bool := if e.1 = f ∨ t e.1 = true then updB t e.2 else t
def relax (E : Ways) (f : Nat) (t : Nat → Bool) : Nat → Bool := E.foldl (relax1 f) t
def rounds (E : Ways) (f : Nat) : Nat → Nat → Bool
  | 0 => fun _ => false
  | k + 1 => relax E f (rounds E f k)
theorem relax1_mono (f : Nat) (t : Nat → Bool) (e : Nat × Nat) {x : Nat} (h : t x = true) : relax1 f t e x = true := by
  unfold relax1; split
  · exact (updB_iff _ _ _).2 (.inr h)
  · exact h
theorem relax_mono (E : Ways) (f : Nat) : ∀ (t : Nat → Bool) {x : Nat}, t x = true → relax E f t x = true := by
  unfold relax
  induction E with
  | nil => intro t x h; exact h
  | cons e r ih => intro t x h; exact ih _ (relax1_mono f t e h)
theorem relax_step (E : Ways) (f : Nat) : ∀ (t : Nat → Bool) {a b : Nat}, (a, b) ∈ E → (a = f ∨ t a = true) → relax E f t b = true := by
  unfold relax
  induction E with
  | nil => intro t a b h; cases h
  | cons e r ih =>
    intro t a b h k
    rcases List.mem_cons.1 h with h | h
    · subst h
      refine relax_mono r f _ ?_
      unfold relax1
      rw [if_pos k]; exact updB_self _ _
    · exact ih _ h (k.imp id (relax1_mono f t e))
theorem relax_sound (F E : Ways) (f : Nat) (hE : ∀ e, e ∈ E → e ∈ F) : ∀ (t : Nat → Bool), (∀ y, t y = true → Plus F f y) → ∀ y, relax E f t y = true → Plus F f y := by
  unfold relax
  induction E with
  | nil => intro t h y k; exact h y k
  | cons e r ih =>
    intro t h
    refine ih (fun x hx => hE x (List.mem_cons_of_mem _ hx)) _ ?_
    intro y k
    have he : (e.1, e.2) ∈ F := hE e List.mem_cons_self
    unfold relax1 at k
    split at k
    next c =>
      rcases (updB_iff _ _ _).1 k with rfl | k
      · rcases c with c | c
        · exact ⟨e.2, by rw [← c]; exact he, .refl _⟩
        · exact (h _ c).tail he
      · exact h y k
    next => exact h y k
theorem rounds_sound (E : Ways) (f : Nat) : ∀ k y, rounds E f k y = true → Plus E f y
  | 0, y, h => by simp [rounds] at h
  | k + 1, y, h => relax_sound E E f (fun _ h => h) _ (rounds_sound E f k) y h
theorem rounds_step (E : Ways) (f k : Nat) {x : Nat} (h : rounds E f k x = true) : rounds E f (k + 1) x = true := relax_mono E f _ h
theorem relax_far (E : Ways) (f n : Nat) (hE : ∀ e, e ∈ E → e.2 < n) : ∀ (t : Nat → Bool) (x : Nat), n ≤ x → relax E f t x = t x := by
  unfold relax
  induction E with
  | nil => intro t x h; rfl
  | cons e r ih =>
    intro t x h
    rw [List.foldl_cons, ih (fun y hy => hE y (List.mem_cons_of_mem _ hy)) _ x h]
    have := hE e List.mem_cons_self
    unfold relax1
    split
    · exact updB_ne _ (by omega)
    · rfl
theorem rounds_still (E : Ways) (f : Nat) {i : Nat} (h : rounds E f (i + 1) = rounds E f i) : ∀ j, rounds E f (i + j) = rounds E f i
  | 0 => rfl
  | j + 1 => by
    show relax E f (rounds E f (i + j)) = rounds E f i
    rw [rounds_still E f h j]; exact h
theorem rounds_count (E : Ways) (f n : Nat) (hE : ∀ e, e ∈ E → e.2 < n) : ∀ j, (∃ i, i < j ∧ rounds E f (i + 1) = rounds E f i) ∨ j ≤ cnt n (rounds E f j)
  | 0 => .inr (Nat.zero_le _)
  | j + 1 => by
    rcases rounds_count E f n hE j with ⟨i, hi, e⟩ | h
    · exact .inl ⟨i, by omega, e⟩
    · by_cases e : rounds E f (j + 1) = rounds E f j
      · exact .inl ⟨j, by omega, e⟩
      · right
        have : ∃ x, rounds E f (j + 1) x ≠ rounds E f j x := Classical.byContradiction fun hn => e (funext fun x => Classical.byContradiction fun k => hn ⟨x, k⟩)
        obtain ⟨x, hx⟩ := this
        have hxn : x < n := Classical.byContradiction fun k => hx (relax_far E f n hE _ x (by omega))
        have h0 : rounds E f j x = false := by
          cases c : rounds E f j x with
          | false => rfl
          | true => exact absurd ((rounds_step E f j c).trans c.symm) hx
        have h1 : rounds E f (j + 1) x = true := by
          cases c : rounds E f (j + 1) x with
          | true => rfl
          | false => exact absurd (c.trans h0.symm) hx
        have := cnt_lt (n := n) (p := rounds E f j) (q := rounds E f (j + 1)) (fun y _ hy => rounds_step E f j hy) hxn h0 h1
        omega
/-- Behind n + 1 rounds all is marked to which ways lead. -/
theorem rounds_all (E : Ways) (f n : Nat) (hE : ∀ e, e ∈ E → e.2 < n) (y : Nat) : rounds E f (n + 1) y = true ↔ Plus E f y := by
  constructor
  · exact rounds_sound E f _ y
  · rintro ⟨b, e, r⟩
    have still : relax E f (rounds E f (n + 1)) = rounds E f (n + 1) := by
      rcases rounds_count E f n hE (n + 1) with ⟨i, hi, k⟩ | h
      · have k1 := rounds_still E f k (n + 1 - i)
        have k2 := rounds_still E f k (n + 2 - i)
        rw [show i + (n + 1 - i) = n + 1 by omega] at k1
        rw [show i + (n + 2 - i) = n + 1 + 1 by omega] at k2
        exact k2.trans k1.symm
      · have := cnt_le n (rounds E f (n + 1)); omega
    refine r.closed (fun z => rounds E f (n + 1) z = true) (fun a c h k => ?_) ?_
    · rw [← still]; exact relax_step E f _ h (.inr k)
    · rw [← still]; exact relax_step E f _ e (.inl rfl)
/-- A place that may come next: all from which ways lead to it came. -/
def Free (E : Ways) (n : Nat) (o : List Nat) (x : Nat) : Prop := x < n ∧ x ∉ o ∧ ∀ a, (a, x) ∈ E → a ∈ o
/-- Places in an order in which each time the least one came that might come; behind the empty list, one more each. -/
inductive Gre (E : Ways) (n : Nat) : List Nat → Prop
  | nil : Gre E n []
  | snoc {o : List Nat} {x : Nat} : Gre E n o → Free E n o x → (∀ y, Free E n o y → x ≤ y) → Gre E n (o ++ [x])
theorem Gre.inv {E : Ways} {n : Nat} {o : List Nat} {x : Nat} (h : Gre E n (o ++ [x])) : Gre E n o ∧ Free E n o x ∧ ∀ y, Free E n o y → x ≤ y := by
  generalize hl : o ++ [x] = l at h
  cases h with
  | nil => simp at hl
  | snoc h f m =>
    have e := List.append_inj' hl rfl
    obtain ⟨e1, e2⟩ := e
    simp only [List.cons.injEq, and_true] at e2
    subst e1 e2
    exact ⟨h, f, m⟩
theorem Gre.unique {E : Ways} {n : Nat} {o p : List Nat} (h : Gre E n o) (k : Gre E n p) (hl : o.length = p.length) : o = p := by
  induction h generalizing p with
  | nil => exact (List.length_eq_zero_iff.1 hl.symm).symm
  | snoc h f m ih =>
    cases k with
    | nil => simp at hl
    | snoc k f' m' =>
      have e := ih k (by simpa using hl)
      subst e
      rw [Nat.le_antisymm (m _ f') (m' _ f)]
theorem Gre.lt {E : Ways} {n : Nat} {o : List Nat} (h : Gre E n o) : ∀ x ∈ o, x < n := by
  induction h with
  | nil => intro x hx; cases hx
  | snoc h f m ih =>
    intro x hx
    rcases List.mem_append.1 hx with hx | hx
    · exact ih x hx
    · rw [List.mem_singleton] at hx; subst hx; exact f.1
theorem Gre.preds {E : Ways} {n : Nat} {o : List Nat} (h : Gre E n o) : ∀ a b, (a, b) ∈ E → b ∈ o → a ∈ o := by
  induction h with
  | nil => intro a b _ hx; cases hx
  | snoc h f m ih =>
    intro a b e hx
    rcases List.mem_append.1 hx with hx | hx
    · exact List.mem_append.2 (.inl (ih a b e hx))
    · rw [List.mem_singleton] at hx; subst hx; exact List.mem_append.2 (.inl (f.2.2 a e))
theorem Gre.count {E : Ways} {n : Nat} {o : List Nat} (h : Gre E n o) : cnt n (fun x => decide (x ∈ o)) = o.length := by
  induction h with
  | nil => unfold cnt; simp
  | @snoc o x h f m ih =>
    have e : (fun y => decide (y ∈ o ++ [x])) = updB (fun y => decide (y ∈ o)) x := by
      funext y
      unfold updB
      by_cases c : y = x <;> simp [c]
    rw [e, cnt_add_one _ f.1 (by simp [f.2.1]), ih]; simp
theorem Gre.le {E : Ways} {n : Nat} {o : List Nat} (h : Gre E n o) : o.length ≤ n := by rw [← h.count]; exact cnt_le _ _
theorem Gre.full {E : Ways} {n : Nat} {o : List Nat} (h : Gre E n o) (hl : o.length = n) {x : Nat} (hx : x < n) : x ∈ o := by
  have := cnt_full (n := n) (p := fun x => decide (x ∈ o)) (by rw [h.count, hl]) hx
  simpa using this
theorem Gre.out {E : Ways} {n : Nat} {o : List Nat} (h : Gre E n o) (hl : o.length < n) : ∃ x, x < n ∧ x ∉ o := by
  refine Classical.byContradiction fun hn => ?_
  have hall : ∀ x, x < n → x ∈ o := fun x hx => Classical.byContradiction fun k => hn ⟨x, hx, k⟩
  have h1 := cnt_mono (n := n) (p := fun _ => true) (q := fun x => decide (x ∈ o)) (fun x hx _ => by simp [hall x hx])
  rw [h.count] at h1
  have : cnt n (fun _ => true) = n := by unfold cnt; simp
  omega
/-- The place of a place in the order. -/
theorem Gre.idx {E : Ways} {n : Nat} {o : List Nat} (h : Gre E n o) : ∀ a b, (a, b) ∈ E → b ∈ o → o.idxOf a < o.idxOf b := by
  induction h with
  | nil => intro a b _ hx; cases hx
  | @snoc o x h f m ih =>
    intro a b e hx
    by_cases hb : b ∈ o
    · have ha := h.preds a b e hb
      rw [List.idxOf_append, List.idxOf_append, if_pos ha, if_pos hb]
      exact ih a b e hb
    · have hbx : b = x := by simpa [hb] using hx
      subst hbx
      have ha := f.2.2 a e
      rw [List.idxOf_append, List.idxOf_append, if_pos ha, if_neg hb]
      have := List.idxOf_lt_length_iff.2 ha
      omega
theorem acyc_of_rank {E : Ways} (r : Nat → Nat) (h : ∀ a b, (a, b) ∈ E → r a < r b) : Acyc E := by
  have hr : ∀ x y, Rch E x y → r x ≤ r y := by
    intro x y k
    induction k with
    | refl => exact Nat.le_refl _
    | tail _ e ih => have := h _ _ e; omega
  rintro x ⟨b, e, k⟩
  have := h x b e
  have := hr b x k
  omega
theorem Gre.acyc {E : Ways} {n : Nat} {o : List Nat} (h : Gre E n o) (hl : o.length = n) (hE : ∀ e, e ∈ E → e.1 < n ∧ e.2 < n) : Acyc E :=
  acyc_of_rank (fun x => o.idxOf x) fun a b e => h.idx a b e (h.full hl (hE _ e).2)
open Classical in
/-- How many lead to a place. -/
noncomputable def anc (E : Ways) (n x : Nat) : Nat := cnt n (fun y => decide (Plus E y x))
open Classical in
theorem Gre.next {E : Ways} {n : Nat} {o : List Nat} (h : Gre E n o) (hE : ∀ e, e ∈ E → e.1 < n ∧ e.2 < n) (hA : Acyc E) (hl : o.length < n) : ∃ x, Free E n o x := by
  obtain ⟨x0, h0, k0⟩ := h.out hl
  have go : ∀ m x, anc E n x = m → x < n → x ∉ o → ∃ y, Free E n o y := by
    intro m
    induction m using Nat.strongRecOn with
    | ind m ih =>
      intro x hm hx ho
      by_cases hf : ∀ a, (a, x) ∈ E → a ∈ o
      · exact ⟨x, hx, ho, hf⟩
      · have : ∃ a, (a, x) ∈ E ∧ a ∉ o := Classical.byContradiction fun hn => hf fun a e => Classical.byContradiction fun k => hn ⟨a, e, k⟩
        obtain ⟨a, e, ka⟩ := this
        refine ih (anc E n a) ?_ a rfl (hE _ e).1 ka
        rw [← hm]
        refine cnt_lt (z := a) (fun y _ hy => ?_) (hE _ e).1 ?_ ?_
        · have : Plus E y a := by simpa using hy
          simpa using this.tail e
        · have := hA a
          simpa [Cyc] using this
        · have : Plus E a x := ⟨x, e, .refl x⟩
          simpa using this
  exact go _ x0 rfl h0 k0
/-- The order stops short of all places just where ways lead back. -/
theorem Gre.stuck {E : Ways} {n : Nat} {o : List Nat} (h : Gre E n o) (hE : ∀ e, e ∈ E → e.1 < n ∧ e.2 < n) (hs : ∀ x, ¬ Free E n o x) : o.length = n ↔ Acyc E := by
  constructor
  · intro k; exact h.acyc k hE
  · intro k
    have := h.le
    refine Classical.byContradiction fun c => ?_
    obtain ⟨x, hx⟩ := h.next hE k (by omega)
    exact hs x hx
theorem Cyc.lt {E : Ways} {n x : Nat} (hE : ∀ e, e ∈ E → e.1 < n ∧ e.2 < n) (h : Cyc E x) : x < n := by
  obtain ⟨b, e, _⟩ := h
  exact (hE _ e).1
theorem Gre.unique' {E : Ways} {n : Nat} {o p : List Nat} (h : Gre E n o) (k : Gre E n p) (ho : o.length = n) (hp : p.length = n) : o = p := h.unique k (by omega)
/-- Depths that belong to places that came. -/
structure DepOk (E : Ways) (o : List Nat) (d : Nat → Nat) : Prop where
  up : ∀ a b, (a, b) ∈ E → a ∈ o → d a + 1 ≤ d b
  by' : ∀ b, d b = 0 ∨ ∃ a, (a, b) ∈ E ∧ a ∈ o ∧ d b = d a + 1
  le : ∀ b, d b ≤ o.length
/-- One round of depths. -/
def dep1 (d : Nat → Nat) (e : Nat × Nat) : Nat → Nat := fun y => if y = e.2 then max (d e.2) (d e.1 + 1) else d y
def depR (E : Ways) (d : Nat → Nat) : Nat → Nat := E.foldl dep1 d
def depN (E : Ways) : Nat → Nat → Nat
  | 0 => fun _ => 0
  | k + 1 => depR E (depN E k)
theorem dep1_mono (d : Nat → Nat) (e : Nat × Nat) (y : Nat) : d y ≤ dep1 d e y := by
  unfold dep1; split
  next h => subst h; omega
  next => exact Nat.le_refl _
theorem depR_mono (E : Ways) : ∀ (d : Nat → Nat) (y : Nat), d y ≤ depR E d y := by
  unfold depR
  induction E with
  | nil => intro d y; exact Nat.le_refl _
  | cons e r ih => intro d y; exact Nat.le_trans (dep1_mono d e y) (ih _ y)
theorem depR_le (E : Ways) (D : Nat → Nat) (hD : ∀ a b, (a, b) ∈ E → D a + 1 ≤ D b) : ∀ d, (∀ y, d y ≤ D y) → ∀ y, depR E d y ≤ D y := by
  unfold depR
  induction E with
  | nil => intro d h y; exact h y
  | cons e r ih =>
    intro d h
    refine ih (fun a b k => hD a b (List.mem_cons_of_mem _ k)) _ ?_
    intro y
    have h1 := hD e.1 e.2 List.mem_cons_self
    have h2 := h e.1
    have h3 := h e.2
    unfold dep1
    split
    next c => subst c; omega
    next => exact h y
theorem depR_ge (E : Ways) : ∀ (d : Nat → Nat) (a b : Nat), (a, b) ∈ E → d a + 1 ≤ depR E d b := by
  unfold depR
  induction E with
  | nil => intro d a b h; cases h
  | cons e r ih =>
    intro d a b h
    rcases List.mem_cons.1 h with h | h
    · subst h
      refine Nat.le_trans ?_ (depR_mono r _ b)
      unfold dep1
      simp only [if_pos]
      omega
    · refine Nat.le_trans ?_ (ih _ a b h)
      have := dep1_mono d e a
      omega
theorem depN_le (E : Ways) (D : Nat → Nat) (hD : ∀ a b, (a, b) ∈ E → D a + 1 ≤ D b) : ∀ k y, depN E k y ≤ D y
  | 0, _ => Nat.zero_le _
  | k + 1, y => depR_le E D hD _ (depN_le E D hD k) y
theorem depN_ge (E : Ways) (o : List Nat) (D : Nat → Nat) (hD : DepOk E o D) : ∀ k y, D y ≤ k → D y ≤ depN E k y
  | 0, y, h => by omega
  | k + 1, y, h => by
    rcases hD.by' y with c | ⟨a, e, _, c⟩
    · omega
    · have h1 := depN_ge E o D hD k a (by omega)
      have h2 := depR_ge E (depN E k) a y e
      show D y ≤ depR E (depN E k) y
      omega
theorem depN_eq (E : Ways) (n : Nat) (o : List Nat) (D : Nat → Nat) (hD : DepOk E o D) (ho : o.length ≤ n) (hall : ∀ a b, (a, b) ∈ E → a ∈ o) (y : Nat) : depN E n y = D y := by
  have h1 := depN_le E D (fun a b e => hD.up a b e (hall a b e)) n y
  have h2 := depN_ge E o D hD n y (by have := hD.le y; omega)
  omega
theorem depN_bd (E : Ways) (k y : Nat) : depN E k y ≤ k * E.length := by
  have h1 : ∀ (E : Ways) (d : Nat → Nat) (c : Nat), (∀ y, d y ≤ c) → ∀ y, depR E d y ≤ c + E.length := by
    intro E
    unfold depR
    induction E with
    | nil => intro d c h y; simpa using h y
    | cons e r ih =>
      intro d c h y
      have := ih (dep1 d e) (c + 1) (fun z => by have := h z; have := h e.2; have := h e.1; unfold dep1; split <;> omega) y
      simp only [List.foldl_cons, List.length_cons]
      omega
  induction k generalizing y with
  | zero => simp [depN]
  | succ k ih =>
    have := h1 E (depN E k) (k * E.length) ih y
    show depR E (depN E k) y ≤ _
    rw [Nat.succ_mul]; exact this
def updN (s : Nat → Nat) (x v : Nat) : Nat → Nat := fun y => if y = x then v else s y
theorem updN_self (s : Nat → Nat) (x v : Nat) : updN s x v x = v := by simp [updN]
theorem updN_ne (s : Nat → Nat) {x y : Nat} (v : Nat) (h : y ≠ x) : updN s x v y = s y := by simp [updN, h]
/-- How many ways lead to y from places that did not come. -/
def inW (E : Ways) (o : List Nat) (y : Nat) : Nat := E.countP (fun e => e.2 == y && !decide (e.1 ∈ o))
theorem inW_zero {E : Ways} {o : List Nat} {y : Nat} : inW E o y = 0 ↔ ∀ a, (a, y) ∈ E → a ∈ o := by
  unfold inW
  rw [List.countP_eq_zero]
  constructor
  · intro h a e
    have := h _ e
    simpa using this
  · rintro h ⟨a, b⟩ e
    simp only [Bool.and_eq_true, beq_iff_eq, Bool.not_eq_true', decide_eq_false_iff_not, not_and, Classical.not_not]
    rintro rfl
    exact h a e
theorem inW_snoc (E : Ways) (o : List Nat) (x y : Nat) (hx : x ∉ o) : inW E o y = inW E (o ++ [x]) y + (sideL E x).countP (· == y) := by
  unfold inW sideL
  induction E with
  | nil => rfl
  | cons e r ih =>
    rw [List.countP_cons, List.countP_cons, ih, List.filter_cons]
    by_cases h1 : e.1 = x
    · have : e.1 ∉ o := by rw [h1]; exact hx
      simp only [h1, beq_self_eq_true, if_true, List.map_cons, List.countP_cons]
      by_cases h2 : e.2 = y
      · simp [h2, hx]; omega
      · simp [h2]
    · by_cases h2 : e.1 ∈ o
      · simp [h1, h2]
      · simp [h1, h2]; omega
/-- What holds between two places that come. -/
structure Kh (E : Ways) (n : Nat) (o : List Nat) (many dep : Nat → Nat) (fr : List Nat) : Prop where
  gre : Gre E n o
  mny : ∀ y, many y = inW E o y
  free : ∀ y, y ∈ fr ↔ y < n ∧ y ∉ o ∧ many y = 0
  sorted : fr.Pairwise (· < ·)
  dp : DepOk E o dep
theorem Kh.isFree {E : Ways} {n : Nat} {o : List Nat} {many dep : Nat → Nat} {fr : List Nat} (h : Kh E n o many dep fr) (y : Nat) : y ∈ fr ↔ Free E n o y := by
  rw [h.free, h.mny, inW_zero]; rfl
theorem Kh.init (E : Ways) (n : Nat) : Kh E n [] (fun y => E.countP (fun e => e.2 == y)) (fun _ => 0) ((List.range n).filter (fun y => E.countP (fun e => e.2 == y) == 0)) := by
  refine ⟨.nil, fun y => ?_, fun y => ?_, ?_, ⟨fun a b _ k => absurd k (by simp), fun b => Or.inl rfl, fun b => Nat.zero_le _⟩⟩
  · unfold inW; simp
  · simp
  · exact List.Pairwise.filter _ List.pairwise_lt_range
theorem Kh.stuck {E : Ways} {n : Nat} {o : List Nat} {many dep : Nat → Nat} (h : Kh E n o many dep []) (x : Nat) : ¬ Free E n o x := by
  rw [← h.isFree]; simp
theorem Kh.fr_le {E : Ways} {n : Nat} {o : List Nat} {many dep : Nat → Nat} {fr : List Nat} (h : Kh E n o many dep fr) : fr.length + o.length ≤ n := by
  have h1 : ∀ (l : List Nat), l.Pairwise (· < ·) → (∀ y ∈ l, y < n ∧ y ∉ o) → cnt n (fun y => decide (y ∈ l) || decide (y ∈ o)) = l.length + o.length := by
    intro l
    induction l with
    | nil => intro _ _; simp [h.gre.count]
    | cons a r ih =>
      intro hp hm
      obtain ⟨p1, p2⟩ := List.pairwise_cons.1 hp
      have e : (fun y => decide (y ∈ a :: r) || decide (y ∈ o)) = updB (fun y => decide (y ∈ r) || decide (y ∈ o)) a := by
        funext y
        unfold updB
        by_cases c : y = a <;> simp [c]
      have h0 := hm a List.mem_cons_self
      have hr : a ∉ r := fun k => Nat.lt_irrefl _ (p1 a k)
      rw [e, cnt_add_one _ h0.1 (by simp [hr, h0.2]), ih p2 (fun y hy => hm y (List.mem_cons_of_mem _ hy))]
      simp; omega
  rw [← h1 fr h.sorted (fun y hy => ⟨((h.free y).1 hy).1, ((h.free y).1 hy).2.1⟩)]
  exact cnt_le _ _
/-- What holds while the ways from the place that came are gone over: j of them are done. -/
structure KhIn (E : Ways) (n : Nat) (o : List Nat) (x j : Nat) (many dep : Nat → Nat) (fr : List Nat) : Prop where
  gre : Gre E n (o ++ [x])
  mny : ∀ y, many y = inW E (o ++ [x]) y + ((sideL E x).drop j).countP (· == y)
  free : ∀ y, y ∈ fr ↔ y < n ∧ y ∉ o ++ [x] ∧ many y = 0
  sorted : fr.Pairwise (· < ·)
  up : ∀ a b, (a, b) ∈ E → a ∈ o → dep a + 1 ≤ dep b
  upx : ∀ y, y ∈ (sideL E x).take j → dep x + 1 ≤ dep y
  by' : ∀ b, dep b = 0 ∨ ∃ a, (a, b) ∈ E ∧ a ∈ o ++ [x] ∧ dep b = dep a + 1
  le : ∀ b, dep b ≤ o.length + 1
  lex : dep x ≤ o.length
theorem Kh.pop {E : Ways} {n : Nat} {o : List Nat} {many dep : Nat → Nat} {x : Nat} {r : List Nat} (h : Kh E n o many dep (x :: r)) : KhIn E n o x 0 many dep r := by
  have hf : Free E n o x := (h.isFree x).1 List.mem_cons_self
  have hs := List.pairwise_cons.1 h.sorted
  refine ⟨.snoc h.gre hf fun y hy => ?_, fun y => ?_, fun y => ?_, hs.2, h.dp.up, fun y hy => by simp at hy, fun b => ?_, fun b => Nat.le_succ_of_le (h.dp.le b), h.dp.le x⟩
  · rcases List.mem_cons.1 ((h.isFree y).2 hy) with k | k
    · omega
    · exact Nat.le_of_lt (hs.1 y k)
  · rw [h.mny, List.drop_zero]; exact inW_snoc E o x y hf.2.1
  · constructor
    · intro k
      have k1 := (h.free y).1 (List.mem_cons_of_mem _ k)
      have := hs.1 y k
      refine ⟨k1.1, ?_, k1.2.2⟩
      rw [List.mem_append, List.mem_singleton]
      rintro (c | c)
      · exact k1.2.1 c
      · omega
    · rintro ⟨k1, k2, k3⟩
      rw [List.mem_append, List.mem_singleton] at k2
      rcases List.mem_cons.1 ((h.free y).2 ⟨k1, fun c => k2 (.inl c), k3⟩) with c | c
      · exact absurd (.inr c) k2
      · exact c
  · rcases h.dp.by' b with c | ⟨a, e, m, c⟩
    · exact .inl c
    · exact .inr ⟨a, e, List.mem_append.2 (.inl m), c⟩
theorem KhIn.out {E : Ways} {n : Nat} {o : List Nat} {x j : Nat} {many dep : Nat → Nat} {fr : List Nat} (h : KhIn E n o x j many dep fr) {y : Nat} (hy : (x, y) ∈ E) : y ∉ o ++ [x] := by
  have hf := h.gre.inv.2.1
  intro k
  rcases List.mem_append.1 k with c | c
  · exact hf.2.1 (h.gre.inv.1.preds _ _ hy c)
  · rw [List.mem_singleton] at c
    subst c
    exact hf.2.1 (hf.2.2 _ hy)
/-- Where a place stands among others. -/
def insAt (y : Nat) (fr : List Nat) : Nat := fr.countP (· < y)
def insL (y : Nat) (fr : List Nat) : List Nat := fr.take (insAt y fr) ++ y :: fr.drop (insAt y fr)
theorem insAt_le (y : Nat) (fr : List Nat) : insAt y fr ≤ fr.length := List.countP_le_length
theorem insL_len (y : Nat) (fr : List Nat) : (insL y fr).length = fr.length + 1 := by
  have := insAt_le y fr
  unfold insL; simp; omega
theorem mem_insL {y : Nat} {fr : List Nat} {z : Nat} : z ∈ insL y fr ↔ z = y ∨ z ∈ fr := by
  unfold insL
  rw [List.mem_append, List.mem_cons]
  have : z ∈ fr ↔ z ∈ fr.take (insAt y fr) ∨ z ∈ fr.drop (insAt y fr) := by
    rw [← List.mem_append, List.take_append_drop]
  rw [this]
  constructor
  · rintro (h | h | h)
    · exact .inr (.inl h)
    · exact .inl h
    · exact .inr (.inr h)
  · rintro (h | h | h)
    · exact .inr (.inl h)
    · exact .inl h
    · exact .inr (.inr h)
theorem insL_sorted {y : Nat} : ∀ {fr : List Nat}, fr.Pairwise (· < ·) → y ∉ fr → (insL y fr).Pairwise (· < ·)
  | [], _, _ => by simp [insL, insAt]
  | a :: r, h, hy => by
    obtain ⟨h1, h2⟩ := List.pairwise_cons.1 h
    have hya : y ≠ a := fun c => hy (by simp [c])
    have hyr : y ∉ r := fun c => hy (by simp [c])
    by_cases c : a < y
    · have e : insAt y (a :: r) = insAt y r + 1 := by unfold insAt; rw [List.countP_cons_of_pos (by simpa using c)]
      have e2 : insL y (a :: r) = a :: insL y r := by unfold insL; rw [e]; rfl
      rw [e2, List.pairwise_cons]
      refine ⟨fun z hz => ?_, insL_sorted h2 hyr⟩
      rcases mem_insL.1 hz with rfl | hz
      · exact c
      · exact h1 z hz
    · have e : insAt y (a :: r) = 0 := by
        unfold insAt
        rw [List.countP_eq_zero]
        intro z hz
        rcases List.mem_cons.1 hz with rfl | hz
        · simpa using c
        · have := h1 z hz; simp; omega
      have e2 : insL y (a :: r) = y :: a :: r := by unfold insL; rw [e]; rfl
      rw [e2, List.pairwise_cons]
      refine ⟨fun z hz => ?_, h⟩
      rcases List.mem_cons.1 hz with rfl | hz
      · omega
      · have := h1 z hz; omega
theorem KhIn.step {E : Ways} {n : Nat} {o : List Nat} {x j : Nat} {many dep : Nat → Nat} {fr : List Nat} {y : Nat} (h : KhIn E n o x j many dep fr) (hE : ∀ e, e ∈ E → e.1 < n ∧ e.2 < n) (hj : (sideL E x)[j]? = some y) :
    1 ≤ many y ∧ KhIn E n o x (j + 1) (updN many y (many y - 1)) (updN dep y (max (dep y) (dep x + 1))) (if many y = 1 then insL y fr else fr) := by
  obtain ⟨hlt, hget⟩ := List.getElem?_eq_some_iff.1 hj
  have hmem : (x, y) ∈ E := mem_sideL.1 (List.mem_of_getElem? hj)
  have hout := h.out hmem
  have hd : (sideL E x).drop j = y :: (sideL E x).drop (j + 1) := by rw [List.drop_eq_getElem_cons hlt, hget]
  have hc : ∀ z, ((sideL E x).drop j).countP (· == z) = ((sideL E x).drop (j + 1)).countP (· == z) + if y = z then 1 else 0 := by
    intro z
    rw [hd, List.countP_cons]
    by_cases c : y = z <;> simp [c]
  have hm1 : 1 ≤ many y := by rw [h.mny, hc y, if_pos rfl]; omega
  have hyx : y ≠ x := fun c => hout (by rw [c]; simp)
  have hyo : ∀ a, a ∈ o ++ [x] → a ≠ y := fun a ha c => hout (by rw [← c]; exact ha)
  have hfr : y ∉ fr := fun c => by have := ((h.free y).1 c).2.2; omega
  refine ⟨hm1, h.gre, fun z => ?_, fun z => ?_, ?_, fun a b e ha => ?_, fun z hz => ?_, fun b => ?_, fun b => ?_, ?_⟩
  · by_cases c : z = y
    · subst c
      rw [updN_self, h.mny, hc z, if_pos rfl]; omega
    · rw [updN_ne _ _ c, h.mny, hc z, if_neg (fun k => c k.symm)]; omega
  · by_cases c : z = y
    · subst c
      rw [updN_self]
      split
      next k => rw [mem_insL]; exact ⟨fun _ => ⟨(hE _ hmem).2, hout, by omega⟩, fun _ => .inl rfl⟩
      next k => exact ⟨fun q => absurd q hfr, fun q => absurd q.2.2 (by omega)⟩
    · rw [updN_ne _ _ c, ← h.free]
      split
      · rw [mem_insL]; exact ⟨fun q => q.resolve_left c, .inr⟩
      · exact Iff.rfl
  · split
    · exact insL_sorted h.sorted hfr
    · exact h.sorted
  · have hay := hyo a (List.mem_append.2 (.inl ha))
    rw [updN_ne _ _ hay]
    have := h.up a b e ha
    by_cases c : b = y
    · subst c; rw [updN_self]; omega
    · rw [updN_ne _ _ c]; exact this
  · rw [updN_ne _ _ (fun c => hyx c.symm)]
    by_cases c : z = y
    · subst c; rw [updN_self]; omega
    · rw [updN_ne _ _ c]
      refine h.upx z ?_
      rw [List.take_add_one, hj] at hz
      simpa [c] using hz
  · by_cases c : b = y
    · subst c
      rw [updN_self]
      by_cases k : dep b ≤ dep x + 1
      · right
        refine ⟨x, hmem, by simp, ?_⟩
        rw [updN_ne _ _ (fun c => hyx c.symm)]; omega
      · rcases h.by' b with q | ⟨a, e, m, q⟩
        · omega
        · right
          refine ⟨a, e, m, ?_⟩
          rw [updN_ne _ _ (hyo a m)]; omega
    · rw [updN_ne _ _ c]
      rcases h.by' b with q | ⟨a, e, m, q⟩
      · exact .inl q
      · right
        refine ⟨a, e, m, ?_⟩
        rw [updN_ne _ _ (hyo a m)]; exact q
  · have h1 := h.le b
    have h2 := h.lex
    by_cases c : b = y
    · subst c; rw [updN_self]; omega
    · rw [updN_ne _ _ c]; exact h1
  · rw [updN_ne _ _ (fun c => hyx c.symm)]; exact h.lex
theorem KhIn.done {E : Ways} {n : Nat} {o : List Nat} {x j : Nat} {many dep : Nat → Nat} {fr : List Nat} (h : KhIn E n o x j many dep fr) (hj : (sideL E x).length ≤ j) : Kh E n (o ++ [x]) many dep fr := by
  refine ⟨h.gre, fun y => ?_, h.free, h.sorted, ⟨fun a b e ha => ?_, h.by', fun b => by have := h.le b; simpa using this⟩⟩
  · rw [h.mny, List.drop_eq_nil_of_le hj]; simp
  · rcases List.mem_append.1 ha with c | c
    · exact h.up a b e c
    · rw [List.mem_singleton] at c
      subst c
      exact h.upx b (by rw [List.take_of_length_le hj]; exact mem_sideL.2 e)
/-- What the sorting of places gives. -/
structure Sorted (E : Ways) (n : Nat) (o : List Nat) (dep : Nat → Nat) : Prop where
  gre : Gre E n o
  stuck : ∀ x, ¬ Free E n o x
  dp : DepOk E o dep
theorem Kh.end {E : Ways} {n : Nat} {o : List Nat} {many dep : Nat → Nat} (h : Kh E n o many dep []) : Sorted E n o dep := ⟨h.gre, h.stuck, h.dp⟩
theorem Sorted.full {E : Ways} {n : Nat} {o : List Nat} {dep : Nat → Nat} (h : Sorted E n o dep) (hE : ∀ e, e ∈ E → e.1 < n ∧ e.2 < n) : o.length = n ↔ Acyc E := h.gre.stuck hE h.stuck
end Go.Proofs.YtbnnbhblfclomaaDoor
