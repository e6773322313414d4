/- First and Pop of any queue. -/
import Derived.Test.YtfbbkeekpkbjhaaDoorP3
namespace Go.Proofs.YtfbbkeekpkbjhaaDoor
open Go.RowKit
theorem first_ok (B q r n : Nat) (hv : Value) (room : Int) (f : Nat → Ev) (m : Int → Int → Option Nat) (w : World) (h : QS B w q r hv room (n + 1) f m) :
    Calls Tryd.prog 17 #[.pointer (some ⟨q, 0, none⟩)] w fun x w' => x = .returned (.tuple #[.agg (evV (f 0)), .bool true]) ∧ Below w.heap.size w w' := by
  obtain ⟨g, cap, rfl, hq, hb⟩ := h.rep (by omega)
  exact first_walk q r room g cap n f m w hq
theorem pop_ok (B q r n : Nat) (hv : Value) (room : Int) (f : Nat → Ev) (m : Int → Int → Option Nat) (w : World) (h : QS B w q r hv room (n + 1) f m) (hB : B ≤ w.heap.size) (hn : n + 1 ≤ 65536) :
    Calls Tryd.prog 16 #[.pointer (some ⟨q, 0, none⟩)] w fun x w' => x = .returned (.tuple #[.agg (evV (f 0)), .bool true]) ∧ (∃ hv' f' m', QS B w' q r hv' room n f' m' ∧ hv'.ownBlock = hv.ownBlock ∧ (∀ x, Mem n f' x → Mem (n + 1) f x ∧ ltE (f 0) x ∧ ¬ (x.k = (f 0).k ∧ x.d = (f 0).d))) ∧ QF B w w' q r hv := by
  obtain ⟨g, cap, rfl, hq, hb⟩ := h.rep (by omega)
  refine (pop_walk q r room g cap n f m w hq h.mo h.od hn).mono fun x w' ⟨hx, ⟨f', m', h', hmo, hod, hs⟩, hf⟩ => ?_
  refine ⟨hx, ⟨_, f', m', ⟨h'.qb, h'.mr, hmo, hod, Or.inr ⟨g, cap, rfl, h'.hr, hb⟩, h.bq, h.br⟩, rfl, fun y hy => ?_⟩, QF.of_fr hf hB h.bq h.br hb (Or.inl rfl)⟩
  obtain ⟨j, hj, rfl⟩ := (hs y).2 hy
  have key : ∃ i, 0 < i ∧ i < n + 1 ∧ swp f 0 n j = f i := by
    by_cases h0 : j = 0
    · subst h0; exact ⟨n, by omega, by omega, swp_i⟩
    · exact ⟨j, by omega, by omega, swp_o h0 (by omega)⟩
  obtain ⟨i, i0, i1, e⟩ := key
  rw [e]
  exact ⟨⟨i, i1, rfl⟩, h.od.first i i0 i1, fun hk => by have := h.mo.inj (i := i) (j := 0) i1 (by omega) hk; omega⟩
theorem QS.setRow {B : Nat} {w : World} {q r L : Nat} {hv : Value} {room : Int} {n : Nat} {f : Nat → Ev} {m : Int → Int → Option Nat} (h : QS B w q r hv room n f m) (h1 : L ≠ q) (h2 : L ≠ r) (h3 : hv.ownBlock ≠ some L) (cs : Array Value) : QS B (w.setRow L cs) q r hv room n f m :=
  ⟨(setRow_other _ _ _ _ (Ne.symm h1)).trans h.qb, h.mr.of_block (setRow_other _ _ _ _ (Ne.symm h2)), h.mo, h.od, h.hp.imp id fun ⟨g, cap, e, hr, hb⟩ => ⟨g, cap, e, hr.of_block (setRow_other _ _ _ _ (fun e2 => h3 (by rw [e, ← e2]; rfl))), hb⟩, h.bq, h.br⟩
end Go.Proofs.YtfbbkeekpkbjhaaDoor
