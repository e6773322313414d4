/- Two queues; sorted events. -/
import Derived.Test.YtfbbkeekpkbjhaaDoorP4
import Derived.Test.YtfbbkeekpkbjhaaDoorC2
namespace Go.Proofs.YtfbbkeekpkbjhaaDoor
open Go.RowKit
theorem set_new_ok (B q r n : Nat) (hv : Value) (room : Int) (f : Nat → Ev) (m : Int → Int → Option Nat) (e : Ev) (w : World) (h : QS B w q r hv room n f m) (hB : B ≤ w.heap.size) (hroom : room ≤ 65536) (hlt : (n : Int) < room) (hm : m e.k e.d = none)
    (t0 : 0 ≤ e.t) (t1 : e.t ≤ 4611686018427387904) (k0 : 0 ≤ e.k) (d0 : 0 ≤ e.d) :
    Calls Tryd.prog 7 #[.pointer (some ⟨q, 0, none⟩), .agg #[.int .i64 e.t, .int .i64 e.k, .int .i64 e.d]] w fun x w' => x = .returned .nilIface ∧ (∃ hv' f' m', QS B w' q r hv' room (n + 1) f' m' ∧ (∀ k, hv'.ownBlock = some k → hv.ownBlock = some k ∨ w.heap.size ≤ k) ∧ (∀ x, Mem (n + 1) f' x ↔ x = e ∨ Mem n f x)) ∧ QF B w w' q r hv := by
  have mm : ∀ x, Mem n f x → ¬ (x.k = e.k ∧ x.d = e.d) := by
    rintro x ⟨i, hi, rfl⟩ ⟨h1, h2⟩
    have := h.mo.at_ i hi
    rw [h1, h2, hm] at this
    cases this
  rcases h.hp with ⟨rfl, rfl⟩ | ⟨g, cap, rfl, hr, hb⟩
  · refine (set_new q r w.heap.size 0 0 none [] room f m e w h.qb (World.ownsRow_nil _ _ _ _) (fun k hk => by cases hk) (fun i hi => by omega) h.mr h.mo h.od hm hlt hroom t0 t1 k0 d0).mono fun x w' ⟨hx, ⟨g', cap', f', m', hq, hmo, hod, hs, hg'⟩, hf⟩ => ?_
    have hBg : B ≤ g' := by omega
    refine ⟨hx, ⟨_, f', m', ⟨hq.qb, hq.mr, hmo, hod, Or.inr ⟨g', cap', rfl, hq.hr, hBg⟩, h.bq, h.br⟩, fun k hk => ?_, fun y => ?_⟩, QF.of_fr hf hB h.bq h.br hB (Or.inr (Nat.le_refl _))⟩
    · have : k = g' := by simpa [Value.ownBlock] using hk.symm
      right; omega
    · exact ((hs y).symm.trans (mem_add h.mo hm y)).trans ⟨fun q => q.imp id (·.1), fun q => q.imp id (fun k => ⟨k, mm _ k⟩)⟩
  · obtain ⟨xs, hown, hcs⟩ := hr.own (Nat.zero_le g)
    refine (set_new q r g cap n (some ⟨g, 0, none⟩) xs room f m e w h.qb hown (fun k hk => by simpa [Value.ownBlock] using hk.symm) hcs h.mr h.mo h.od hm hlt hroom t0 t1 k0 d0).mono fun x w' ⟨hx, ⟨g', cap', f', m', hq, hmo, hod, hs, hg'⟩, hf⟩ => ?_
    have hBg : B ≤ g' := by omega
    refine ⟨hx, ⟨_, f', m', ⟨hq.qb, hq.mr, hmo, hod, Or.inr ⟨g', cap', rfl, hq.hr, hBg⟩, h.bq, h.br⟩, fun k hk => ?_, fun y => ?_⟩, QF.of_fr hf hB h.bq h.br hb (Or.inl rfl)⟩
    · have : k = g' := by simpa [Value.ownBlock] using hk.symm
      rcases hg' with c | c
      · left; rw [this, c]; rfl
      · right; omega
    · exact ((hs y).symm.trans (mem_add h.mo hm y)).trans ⟨fun q => q.imp id (·.1), fun q => q.imp id (fun k => ⟨k, mm _ k⟩)⟩
/-- Two queues share no block. -/
def Apart (qa ra : Nat) (ha : Value) (qb rb : Nat) (hb : Value) : Prop :=
  ∀ k, (k = qb ∨ k = rb ∨ hb.ownBlock = some k) → k ≠ qa ∧ k ≠ ra ∧ ha.ownBlock ≠ some k
theorem Apart.symm {qa ra qb rb : Nat} {ha hb : Value} (h : Apart qa ra ha qb rb hb) : Apart qb rb hb qa ra ha := by
  intro k hk
  refine ⟨fun c => ?_, fun c => ?_, fun c => ?_⟩
  · obtain ⟨h1, h2, h3⟩ := h k (.inl c)
    rcases hk with rfl | rfl | hk
    · exact h1 rfl
    · exact h2 rfl
    · exact h3 hk
  · obtain ⟨h1, h2, h3⟩ := h k (.inr (.inl c))
    rcases hk with rfl | rfl | hk
    · exact h1 rfl
    · exact h2 rfl
    · exact h3 hk
  · obtain ⟨h1, h2, h3⟩ := h k (.inr (.inr c))
    rcases hk with rfl | rfl | hk
    · exact h1 rfl
    · exact h2 rfl
    · exact h3 hk
theorem QS.other {B : Nat} {w w' : World} {qa ra qb rb : Nat} {ha hb : Value} {room : Int} {n : Nat} {f : Nat → Ev} {m : Int → Int → Option Nat} (h : QS B w qb rb hb room n f m) (hf : QF B w w' qa ra ha) (hd : Apart qa ra ha qb rb hb) : QS B w' qb rb hb room n f m := by
  have e1 : w'.heap[qb]? = w.heap[qb]? := by
    obtain ⟨h1, h2, h3⟩ := hd qb (.inl rfl)
    exact hf.far qb h.qb.lt h1 h2 h3
  have e2 : w'.heap[rb]? = w.heap[rb]? := by
    obtain ⟨h1, h2, h3⟩ := hd rb (.inr (.inl rfl))
    exact hf.far rb h.mr.lt h1 h2 h3
  refine ⟨e1.trans h.qb, h.mr.of_block e2, h.mo, h.od, h.hp.imp id ?_, h.bq, h.br⟩
  rintro ⟨g, cap, rfl, hr, hB⟩
  obtain ⟨h1, h2, h3⟩ := hd g (.inr (.inr rfl))
  exact ⟨g, cap, rfl, hr.of_block (hf.far g hr.lt h1 h2 h3), hB⟩
theorem Apart.turn {B : Nat} {w : World} {qa ra qb rb : Nat} {ha ha' hb : Value} {room : Int} {n : Nat} {f : Nat → Ev} {m : Int → Int → Option Nat} (hd : Apart qa ra ha qb rb hb) (h : QS B w qb rb hb room n f m) (hn : ∀ k, ha'.ownBlock = some k → ha.ownBlock = some k ∨ w.heap.size ≤ k) : Apart qa ra ha' qb rb hb := by
  intro k hk
  obtain ⟨h1, h2, h3⟩ := hd k hk
  refine ⟨h1, h2, fun e => ?_⟩
  rcases hn k e with c | c
  · exact h3 c
  · have : k < w.heap.size := by
      rcases hk with rfl | rfl | hk
      · exact h.qb.lt
      · exact h.mr.lt
      · exact (h.own_lt hk).1
    omega
theorem asc_uniq : ∀ {L M : List Ev}, L.Pairwise ltE → M.Pairwise ltE → (∀ x, x ∈ L ↔ x ∈ M) → L = M
  | [], [], _, _, _ => rfl
  | [], b :: M, _, _, h => by have := (h b).2 List.mem_cons_self; cases this
  | a :: L, [], _, _, h => by have := (h a).1 List.mem_cons_self; cases this
  | a :: L, b :: M, h1, h2, h => by
    obtain ⟨a1, a2⟩ := List.pairwise_cons.1 h1
    obtain ⟨b1, b2⟩ := List.pairwise_cons.1 h2
    have hab : a = b := by
      rcases List.mem_cons.1 ((h a).1 List.mem_cons_self) with c | c
      · exact c
      · rcases List.mem_cons.1 ((h b).2 List.mem_cons_self) with d | d
        · exact d.symm
        · exact absurd (a1 b d) (ltE_asymm (b1 a c))
    subst hab
    congr 1
    refine asc_uniq a2 b2 fun x => ⟨fun hx => ?_, fun hx => ?_⟩
    · rcases List.mem_cons.1 ((h x).1 (List.mem_cons_of_mem _ hx)) with c | c
      · subst c; exact absurd (a1 x hx) (ltE_irrefl x)
      · exact c
    · rcases List.mem_cons.1 ((h x).2 (List.mem_cons_of_mem _ hx)) with c | c
      · subst c; exact absurd (b1 x hx) (ltE_irrefl x)
      · exact c
/-- The least of what is left of a list is its first. -/
theorem least_drop {L : List Ev} (hL : L.Pairwise ltE) {k n : Nat} {f : Nat → Ev} (ho : Ord (n + 1) f) (hx : ∀ x, Mem (n + 1) f x ↔ x ∈ L.drop k) (hk : k < L.length) : L[k]? = some (f 0) := by
  have hd : L.drop k = L[k] :: L.drop (k + 1) := List.drop_eq_getElem_cons hk
  have h1 : f 0 ∈ L.drop k := (hx _).1 ⟨0, by omega, rfl⟩
  have h2 : Mem (n + 1) f L[k] := (hx _).2 (by rw [hd]; exact List.mem_cons_self)
  have hp : (L.drop k).Pairwise ltE := hL.sublist (List.drop_sublist _ _)
  rw [hd] at h1 hp
  rw [List.getElem?_eq_getElem hk]
  obtain ⟨p1, _⟩ := List.pairwise_cons.1 hp
  rcases List.mem_cons.1 h1 with c | c
  · rw [c]
  · have hlt := p1 _ c
    obtain ⟨i, hi, e⟩ := h2
    by_cases h0 : i = 0
    · rw [h0] at e; rw [← e]
    · have := ho.first i (by omega) hi
      rw [e] at this
      exact absurd this (ltE_asymm hlt)
end Go.Proofs.YtfbbkeekpkbjhaaDoor
