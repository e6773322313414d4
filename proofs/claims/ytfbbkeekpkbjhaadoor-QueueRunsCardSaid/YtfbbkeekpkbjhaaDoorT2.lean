/- QueueTurned walked. -/
import Derived.Test.YtfbbkeekpkbjhaaDoorL2
namespace Go.Proofs.YtfbbkeekpkbjhaaDoor
open Go.RowKit
theorem QS.mono {B C : Nat} {w : World} {q r : Nat} {hv : Value} {room : Int} {n : Nat} {f : Nat → Ev} {m : Int → Int → Option Nat} (h : QS C w q r hv room n f m) (k : B ≤ C) : QS B w q r hv room n f m :=
  ⟨h.qb, h.mr, h.mo, h.od, h.hp.imp id fun ⟨g, cap, e, hr, hb⟩ => ⟨g, cap, e, hr, by omega⟩, by have := h.bq; omega, by have := h.br; omega⟩
theorem pop_ok2 (B q r n : Nat) (hv : Value) (room : Int) (f : Nat → Ev) (m : Int → Int → Option Nat) (w : World) (h : QS B w q r hv room (n + 1) f m) (hB : B ≤ w.heap.size) (hn : n + 1 ≤ 65536) :
    Calls Tryd.prog 16 #[.pointer (some ⟨q, 0, none⟩)] w fun x w' => x = .returned (.tuple #[.agg (evV (f 0)), .bool true]) ∧ (∃ hv' f' m', QS B w' q r hv' room n f' m' ∧ hv'.ownBlock = hv.ownBlock ∧ (∀ x, Mem n f' x ↔ Mem (n + 1) f x ∧ x ≠ f 0)) ∧ QF B w w' q r hv := by
  obtain ⟨g, cap, rfl, hq, hb⟩ := h.rep (by omega)
  refine (pop_walk q r room g cap n f m w hq h.mo h.od hn).mono fun x w' ⟨hx, ⟨f', m', h', hmo, hod, hs⟩, hf⟩ => ?_
  refine ⟨hx, ⟨_, f', m', ⟨h'.qb, h'.mr, hmo, hod, Or.inr ⟨g, cap, rfl, h'.hr, hb⟩, h.bq, h.br⟩, rfl, fun y => ?_⟩, QF.of_fr hf hB h.bq h.br hb (Or.inl rfl)⟩
  constructor
  · intro hy
    obtain ⟨j, hj, rfl⟩ := (hs y).2 hy
    have key : ∃ i, 0 < i ∧ i < n + 1 ∧ swp f 0 n j = f i := by
      by_cases h0 : j = 0
      · subst h0; exact ⟨n, by omega, by omega, swp_i⟩
      · exact ⟨j, by omega, by omega, swp_o h0 (by omega)⟩
    obtain ⟨i, i0, i1, e⟩ := key
    rw [e]
    refine ⟨⟨i, i1, rfl⟩, fun e => ?_⟩
    have := h.mo.inj (i := i) (j := 0) i1 (by omega) ⟨by rw [e], by rw [e]⟩
    omega
  · rintro ⟨⟨i, hi, rfl⟩, hne⟩
    refine (hs _).1 ?_
    have hi0 : i ≠ 0 := fun e => hne (by rw [e])
    by_cases hin : i = n
    · subst hin
      exact ⟨0, by omega, swp_i⟩
    · exact ⟨i, by omega, swp_o hi0 hin⟩
theorem drop_pop {L : List Ev} (hL : L.Pairwise ltE) {k n : Nat} {f f' : Nat → Ev} (hx : ∀ x, Mem (n + 1) f x ↔ x ∈ L.drop k) (hk : k < L.length) (h0 : L[k]? = some (f 0)) (hs : ∀ x, Mem n f' x ↔ Mem (n + 1) f x ∧ x ≠ f 0) : ∀ x, Mem n f' x ↔ x ∈ L.drop (k + 1) := by
  intro x
  have hd : L.drop k = L[k] :: L.drop (k + 1) := List.drop_eq_getElem_cons hk
  have h0' : L[k] = f 0 := by rw [List.getElem?_eq_getElem hk] at h0; exact Option.some.inj h0
  have hp : (L.drop k).Pairwise ltE := hL.sublist (List.drop_sublist _ _)
  rw [hs, hx, hd, h0']
  rw [hd, h0'] at hp
  obtain ⟨p1, _⟩ := List.pairwise_cons.1 hp
  constructor
  · rintro ⟨h, hne⟩
    rcases List.mem_cons.1 h with c | c
    · exact absurd c hne
    · exact c
  · intro h
    exact ⟨List.mem_cons_of_mem _ h, fun e => by subst e; exact absurd (p1 _ h) (ltE_irrefl _)⟩
/-- The event laid for the j'th number. -/
def evt (xs : List Int) (j : Nat) : Ev := ⟨(IntKind.u64.wrap (xs.getD j 0)).tmod 50, (j : Int).tmod 7, j⟩
def Turn (B : Nat) (w : World) (xs : List Int) (n QA RA QB RB : Nat) (i : Nat) (wr : World) : Prop :=
  ∃ (ha hb : Value) (fa fb : Nat → Ev) (ma mb : Int → Int → Option Nat), QS B wr QA RA ha 100 i fa ma ∧ QS B wr QB RB hb 100 i fb mb ∧ Apart QA RA ha QB RB hb ∧ (∀ x, Mem i fa x ↔ ∃ j, j < i ∧ evt xs j = x) ∧ (∀ x, Mem i fb x ↔ ∃ j, n - i ≤ j ∧ j < n ∧ evt xs j = x) ∧ Below B w wr
theorem turn0 {w w1 w2 : World} {xs : List Int} {n : Nat} {ha hb : Value} {fa fb : Nat → Ev} {ma mb : Int → Int → Option Nat} (h1 : QS w.heap.size w1 (w.heap.size + 1) w.heap.size ha 100 0 fa ma) (B1 : Below w.heap.size w w1) (h2 : QS w1.heap.size w2 (w1.heap.size + 1) w1.heap.size hb 100 0 fb mb) (B2 : Below w1.heap.size w1 w2) (e1 : ha.ownBlock = none) (e2 : hb.ownBlock = none) :
    Turn w.heap.size w xs n (w.heap.size + 1) w.heap.size (w1.heap.size + 1) w1.heap.size 0 w2 := by
  have z1 := h1.qb.lt
  refine ⟨ha, hb, fa, fb, ma, mb, h1.below B2, h2.mono B1.size, ?_, fun x => ⟨fun ⟨i, hi, _⟩ => by omega, fun ⟨i, hi, _⟩ => by omega⟩, fun x => ⟨fun ⟨i, hi, _⟩ => by omega, fun ⟨i, hi, hj, _⟩ => by omega⟩, below_trans B1 B2⟩
  intro k hk
  rw [e1]
  rcases hk with rfl | rfl | hk
  · exact ⟨by omega, by omega, by simp⟩
  · exact ⟨by omega, by omega, by simp⟩
  · rw [e2] at hk; cases hk
theorem cellsE_at : ∀ (L : List Ev) (i : Nat), i < L.length → (cellsE L)[i * 3]? = some (.int .i64 (L.getD i ⟨0, 0, 0⟩).t) ∧ (cellsE L)[i * 3 + 1]? = some (.int .i64 (L.getD i ⟨0, 0, 0⟩).k) ∧ (cellsE L)[i * 3 + 2]? = some (.int .i64 (L.getD i ⟨0, 0, 0⟩).d)
  | [], i, h => by simp at h
  | e :: L, 0, _ => by unfold cellsE encE3; simp
  | e :: L, i + 1, h => by
    have := cellsE_at L i (by simpa using h)
    have e0 : cellsE (e :: L) = .int .i64 e.t :: .int .i64 e.k :: .int .i64 e.d :: cellsE L := by unfold cellsE encE3; simp
    have e1 : (i + 1) * 3 = i * 3 + 3 := by omega
    rw [e0, e1]
    simpa using this
theorem lst_heap {w : World} {B n : Nat} {v : Value} {L : List Ev} (h : w.ownsRow B 30 3 v n (cellsE L)) (hl : L.length = n) (h0 : 0 < n) : ∃ g cap, v = .slice (some ⟨g, 0, none⟩) n cap ∧ B ≤ g ∧ HeapRep w g cap n (fun i => L.getD i ⟨0, 0, 0⟩) := by
  rcases h.2 with ⟨_, c⟩ | ⟨g, cap, cur, e, hB, hb, h1, h2, h3, h4⟩
  · omega
  · refine ⟨g, cap, e, hB, cur, hb, h3, h1, h2, fun i hi => ?_⟩
    obtain ⟨a, b, c⟩ := cellsE_at L i (by omega)
    rw [← h4] at a b c
    rw [List.getElem?_take_of_lt (by omega), Array.getElem?_toList] at a b c
    exact ⟨a, b, c⟩
def Off (g q r : Nat) (h : Value) : Prop := g ≠ q ∧ g ≠ r ∧ h.ownBlock ≠ some g
/-- A list of events at hand beside two queues. -/
def LHeld (w : World) (v : Value) (M : Nat) (L : List Ev) (qa ra : Nat) (ha : Value) (qb rb : Nat) (hb : Value) : Prop :=
  (∃ A c, v = .slice A M c) ∧ (0 < M → ∃ g cap, v = .slice (some ⟨g, 0, none⟩) M cap ∧ HeapRep w g cap M (fun i => L.getD i ⟨0, 0, 0⟩) ∧ Off g qa ra ha ∧ Off g qb rb hb)
theorem LHeld.swap {w : World} {v : Value} {M : Nat} {L : List Ev} {qa ra : Nat} {ha : Value} {qb rb : Nat} {hb : Value} (h : LHeld w v M L qa ra ha qb rb hb) : LHeld w v M L qb rb hb qa ra ha :=
  ⟨h.1, fun h0 => let ⟨g, c, e, hr, o1, o2⟩ := h.2 h0; ⟨g, c, e, hr, o2, o1⟩⟩
theorem LHeld.below {w w' : World} {v : Value} {M : Nat} {L : List Ev} {qa ra : Nat} {ha : Value} {qb rb : Nat} {hb : Value} (h : LHeld w v M L qa ra ha qb rb hb) (k : Below w.heap.size w w') : LHeld w' v M L qa ra ha qb rb hb :=
  ⟨h.1, fun h0 => let ⟨g, c, e, hr, o1, o2⟩ := h.2 h0; ⟨g, c, e, hr.of_block (k.block _ hr.lt), o1, o2⟩⟩
theorem LHeld.pop {B : Nat} {w w' : World} {v : Value} {M : Nat} {L : List Ev} {qa ra : Nat} {ha ha' : Value} {qb rb : Nat} {hb : Value} (h : LHeld w v M L qa ra ha qb rb hb) (k : QF B w w' qa ra ha) (e' : ha'.ownBlock = ha.ownBlock) : LHeld w' v M L qa ra ha' qb rb hb :=
  ⟨h.1, fun h0 => let ⟨g, c, e, hr, o1, o2⟩ := h.2 h0; ⟨g, c, e, hr.of_block (k.far _ hr.lt o1.1 o1.2.1 o1.2.2), ⟨o1.1, o1.2.1, by rw [e']; exact o1.2.2⟩, o2⟩⟩
theorem lheld_of {B : Nat} {w w0 : World} {v : Value} {M : Nat} {L : List Ev} {qa ra : Nat} {ha : Value} {qb rb : Nat} {hb : Value} {na nb : Nat} {fa fb : Nat → Ev} {ma mb : Int → Int → Option Nat} {room : Int} (h : w.ownsRow w0.heap.size 30 3 v M (cellsE L)) (hl : L.length = M) (h1 : QS B w0 qa ra ha room na fa ma) (h2 : QS B w0 qb rb hb room nb fb mb) : LHeld w v M L qa ra ha qb rb hb := by
  refine ⟨?_, fun h0 => ?_⟩
  · rcases h.2 with ⟨e, c⟩ | ⟨g, cap, cur, e, _⟩
    · exact ⟨_, _, by rw [e, c]⟩
    · exact ⟨_, _, e⟩
  · obtain ⟨g, cap, e, hB, hr⟩ := lst_heap h hl h0
    exact ⟨g, cap, e, hr, h1.fresh hB, h2.fresh hB⟩
def Turn2 (B : Nat) (w : World) (L : List Ev) (n QA RA QB RB : Nat) (v1 v2 : Value) (k : Nat) (wr : World) : Prop :=
  ∃ (ha hb : Value) (fa fb : Nat → Ev) (ma mb : Int → Int → Option Nat), QS B wr QA RA ha 100 (n - k) fa ma ∧ QS B wr QB RB hb 100 (n - k) fb mb ∧ Apart QA RA ha QB RB hb ∧ (∀ x, Mem (n - k) fa x ↔ x ∈ L.drop k) ∧ (∀ x, Mem (n - k) fb x ↔ x ∈ L.drop k) ∧ LHeld wr v1 n L QA RA ha QB RB hb ∧ LHeld wr v2 n L QA RA ha QB RB hb ∧ Below B w wr
theorem Turn2.drewN {B : Nat} {w wr : World} {L : List Ev} {n QA RA QB RB : Nat} {v1 v2 : Value} {k : Nat} (h : Turn2 B w L n QA RA QB RB v1 v2 k wr) (t : Nat) : Turn2 B w L n QA RA QB RB v1 v2 k (wr.drewN t) := by
  obtain ⟨ha, hb, fa, fb, ma, mb, qa, qb, ap, sa, sb, l1, l2, bel⟩ := h
  have k := below_drewN (Below.refl wr.heap.size wr) t
  exact ⟨ha, hb, fa, fb, ma, mb, qa.below k, qb.below k, ap, sa, sb, l1.below k, l2.below k, below_drewN bel t⟩
end Go.Proofs.YtfbbkeekpkbjhaaDoor
