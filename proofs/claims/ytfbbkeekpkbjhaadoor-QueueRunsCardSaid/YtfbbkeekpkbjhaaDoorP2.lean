/- A queue, nil or not: Set, Find; the document's Ahead. -/
import Derived.Test.YtfbbkeekpkbjhaaDoorP1
namespace Go.Proofs.YtfbbkeekpkbjhaaDoor
open Go.RowKit
set_option maxRecDepth 100000 in
theorem ahead_walk (a b : Ev) (w : World) : Calls Tryd.prog 25 #[.agg (evV a), .agg (evV b)] w fun x w' => x = .returned (.bool (decide (ltE a b))) ∧ Below w.heap.size w w' := by
  have hB := (Blk.new w 43 (evV a)).alloc (.cells (evV b) 43)
  have hB2 := Blk.new1 w (.cells (evV a) 43) 43 (evV b)
  have B0 := below_al (below_al (Below.refl w.heap.size w) (.cells (evV a) 43)) (.cells (evV b) 43)
  generalize hbb : decide (ltE a b) = bb
  have HD := Lib.hid (show bb = true ↔ (a.t < b.t ∨ (a.t = b.t ∧ (a.k < b.k ∨ (a.k = b.k ∧ a.d < b.d)))) by rw [← hbb, decide_eq_true_eq]; exact Iff.rfl)
  clear hbb
  have key : a.t < b.t ∨ (¬ a.t < b.t ∧ a.t ≠ b.t) ∨ (a.t = b.t ∧ a.k < b.k) ∨ (a.t = b.t ∧ ¬ a.k < b.k ∧ a.k ≠ b.k) ∨ (a.t = b.t ∧ a.k = b.k) := by omega
  go_enter Tryd.func25, Tryd.ntmps25
  go_upto_region 1 with (fail)
  generalize hW : (w.alloc (Obj.cells (evV a) 43)).alloc (Obj.cells (evV b) 43) = W at *
  generalize hg : w.heap.size = g at *
  have z0 := hB.lt
  have z1 := hB2.lt
  have c0 : W.cell? ⟨g, 0, none⟩ = some (.int .i64 a.t) := by rw [hB.cell]; rfl
  have c1 : W.cell? ⟨g, 1, none⟩ = some (.int .i64 a.k) := by rw [hB.cell]; rfl
  have c2 : W.cell? ⟨g, 2, none⟩ = some (.int .i64 a.d) := by rw [hB.cell]; rfl
  have d0 : W.cell? ⟨g + 1, 0, none⟩ = some (.int .i64 b.t) := by rw [hB2.cell]; rfl
  have d1 : W.cell? ⟨g + 1, 1, none⟩ = some (.int .i64 b.k) := by rw [hB2.cell]; rfl
  have d2 : W.cell? ⟨g + 1, 2, none⟩ = some (.int .i64 b.d) := by rw [hB2.cell]; rfl
  clear hB hB2 hW
  rcases key with h | ⟨h, h2⟩ | ⟨h, h2⟩ | ⟨h, h2, h3⟩ | ⟨h, h2⟩
  · have HP := Lib.hid (show bb = true from HD.out.2 (Or.inl h))
    have e0 : decide (a.t < b.t) = true := decide_eq_true h
    clear h HD
    go_wp2
    go_ret
    exact ⟨ret_bool HP.out.symm, by rw [hg]; exact B0⟩
  · have HP := Lib.hid (show bb = false from by cases hq : bb; rfl; exact absurd (HD.out.1 hq) (by omega))
    have e0 : decide (a.t < b.t) = false := decide_eq_false h
    have e1 : (a.t == b.t) = false := by simp [h2]
    clear h HD
    go_wp2
    go_ret
    exact ⟨ret_bool HP.out.symm, by rw [hg]; exact B0⟩
  · have HP := Lib.hid (show bb = true from HD.out.2 (Or.inr ⟨h, Or.inl h2⟩))
    have e0 : decide (a.t < b.t) = false := decide_eq_false (by omega)
    have e1 : (a.t == b.t) = true := by simp [h]
    have e2 : decide (a.k < b.k) = true := decide_eq_true h2
    clear h h2 HD
    go_wp2
    go_ret
    exact ⟨ret_bool HP.out.symm, by rw [hg]; exact B0⟩
  · have HP := Lib.hid (show bb = false from by cases hq : bb; rfl; exact absurd (HD.out.1 hq) (by omega))
    have e0 : decide (a.t < b.t) = false := decide_eq_false (by omega)
    have e1 : (a.t == b.t) = true := by simp [h]
    have e2 : decide (a.k < b.k) = false := decide_eq_false h2
    have e3 : (a.k == b.k) = false := by simp [h3]
    clear h h2 h3 HD
    go_wp2
    go_ret
    exact ⟨ret_bool HP.out.symm, by rw [hg]; exact B0⟩
  · have HP := Lib.hid (show decide (a.d < b.d) = bb by
      by_cases hq : a.d < b.d
      · rw [decide_eq_true hq, HD.out.2 (Or.inr ⟨h, Or.inr ⟨h2, hq⟩⟩)]
      · rw [decide_eq_false hq]
        cases hb : bb
        · rfl
        · exact absurd (HD.out.1 hb) (by omega))
    have e0 : decide (a.t < b.t) = false := decide_eq_false (by omega)
    have e1 : (a.t == b.t) = true := by simp [h]
    have e2 : decide (a.k < b.k) = false := decide_eq_false (by omega)
    have e3 : (a.k == b.k) = true := by simp [h2]
    clear h h2 HD
    go_wp2
    go_ret
    exact ⟨ret_bool HP.out, by rw [hg]; exact B0⟩
/-- A queue in memory, nil or not, its blocks from B on. -/
structure QS (B : Nat) (w : World) (q r : Nat) (hv : Value) (room : Int) (n : Nat) (f : Nat → Ev) (m : Int → Int → Option Nat) : Prop where
  qb : Blk w q 56 #[.int .i64 room, hv, .map (some r)]
  mr : MapRep w r m
  mo : MapOk n f m
  od : Ord n f
  hp : (n = 0 ∧ hv = .slice none 0 0) ∨ ∃ g cap, hv = .slice (some ⟨g, 0, none⟩) n cap ∧ HeapRep w g cap n f ∧ B ≤ g
  bq : B ≤ q
  br : B ≤ r
theorem QS.below {B : Nat} {w w1 : World} {q r : Nat} {hv : Value} {room : Int} {n : Nat} {f : Nat → Ev} {m : Int → Int → Option Nat} (h : QS B w q r hv room n f m) (k : Below w.heap.size w w1) : QS B w1 q r hv room n f m :=
  ⟨h.qb.below k, h.mr.of_block (k.block _ h.mr.lt), h.mo, h.od, h.hp.imp id fun ⟨g, cap, e, hr, hb⟩ => ⟨g, cap, e, hr.of_block (k.block _ hr.lt), hb⟩, h.bq, h.br⟩
theorem QS.slice {B : Nat} {w : World} {q r : Nat} {hv : Value} {room : Int} {n : Nat} {f : Nat → Ev} {m : Int → Int → Option Nat} (h : QS B w q r hv room n f m) : ∃ A cap, hv = .slice A n cap := by
  rcases h.hp with ⟨h1, h2⟩ | ⟨g, cap, e, _⟩
  · exact ⟨none, 0, by rw [h2, h1]⟩
  · exact ⟨_, _, e⟩
theorem QS.own_lt {B : Nat} {w : World} {q r : Nat} {hv : Value} {room : Int} {n : Nat} {f : Nat → Ev} {m : Int → Int → Option Nat} (h : QS B w q r hv room n f m) {k : Nat} (hk : hv.ownBlock = some k) : k < w.heap.size ∧ B ≤ k := by
  rcases h.hp with ⟨h1, h2⟩ | ⟨g, cap, e, hr, hb⟩
  · rw [h2] at hk; cases hk
  · rw [e] at hk
    have hk' : k = g := by simpa [Value.ownBlock] using hk.symm
    rw [hk']; exact ⟨hr.lt, hb⟩
/-- What a call on the queue leaves as it was. -/
structure QF (B : Nat) (w w' : World) (q r : Nat) (hv : Value) : Prop where
  bel : Below B w w'
  far : ∀ k, k < w.heap.size → k ≠ q → k ≠ r → hv.ownBlock ≠ some k → w'.heap[k]? = w.heap[k]?
theorem QF.of_fr {B : Nat} {w w' : World} {q r g : Nat} {hv : Value} (h : QFr w w' q r g) (hB : B ≤ w.heap.size) (h1 : B ≤ q) (h2 : B ≤ r) (h3 : B ≤ g) (hg : hv.ownBlock = some g ∨ w.heap.size ≤ g) : QF B w w' q r hv :=
  ⟨⟨h.os, h.tape, h.output, h.size, fun k hk => h.block k (by omega) (by omega) (by omega) (by omega)⟩, fun k hk a b c => h.block k hk a b (fun e => by
    subst e
    rcases hg with hg | hg
    · exact c hg
    · omega)⟩
theorem set_ok (B q r n : Nat) (hv : Value) (room : Int) (f : Nat → Ev) (m : Int → Int → Option Nat) (e : Ev) (w : World) (h : QS B w q r hv room n f m) (hB : B ≤ w.heap.size) (hroom : room ≤ 65536) (hnr : (n : Int) ≤ room) (hc : m e.k e.d ≠ none ∨ (n : Int) < room)
    (t0 : 0 ≤ e.t) (t1 : e.t ≤ 4611686018427387904) (k0 : 0 ≤ e.k) (d0 : 0 ≤ e.d) :
    Calls Tryd.prog 7 #[.pointer (some ⟨q, 0, none⟩), .agg (evV e)] w fun x w' => x = .returned .nilIface ∧ (∃ hv' n' f' m', QS B w' q r hv' room n' f' m' ∧ n' = (if m e.k e.d = none then n + 1 else n) ∧ (∀ x, Mem n' f' x ↔ x = e ∨ (Mem n f x ∧ ¬ (x.k = e.k ∧ x.d = e.d)))) ∧ QF B w w' q r hv := by
  cases hm : m e.k e.d with
  | some i =>
    obtain ⟨hi, _, _⟩ := h.mo.of_ _ _ _ hm
    rcases h.hp with ⟨h1, h2⟩ | ⟨g, cap, rfl, hr, hb⟩
    · omega
    · refine (set_found q r g cap n i room f m e w ⟨h.qb, hr, h.mr⟩ h.mo h.od hm (by omega) t0 t1 k0 d0).mono fun x w' ⟨hx, ⟨f', m', hq, hmo, hod, hs⟩, hf⟩ => ?_
      refine ⟨hx, ⟨_, n, f', m', ⟨hq.qb, hq.mr, hmo, hod, Or.inr ⟨g, cap, rfl, hq.hr, hb⟩, h.bq, h.br⟩, by simp, fun y => ?_⟩, QF.of_fr hf hB h.bq h.br hb (Or.inl rfl)⟩
      exact (hs y).symm.trans (mem_over h.mo hm y)
  | none =>
    have hlt : (n : Int) < room := by
      rcases hc with hc | hc
      · exact absurd hm hc
      · exact hc
    rcases h.hp with ⟨rfl, rfl⟩ | ⟨g, cap, rfl, hr, hb⟩
    · refine (set_new q r w.heap.size 0 0 none [] room f m e w h.qb (World.ownsRow_nil _ _ _ _) (fun k hk => by cases hk) (fun i hi => by omega) h.mr h.mo h.od hm hlt hroom t0 t1 k0 d0).mono fun x w' ⟨hx, ⟨g', cap', f', m', hq, hmo, hod, hs, hg'⟩, hf⟩ => ?_
      have hBg : B ≤ g' := by omega
      refine ⟨hx, ⟨_, 1, f', m', ⟨hq.qb, hq.mr, hmo, hod, Or.inr ⟨g', cap', rfl, hq.hr, hBg⟩, h.bq, h.br⟩, by simp, fun y => ?_⟩, QF.of_fr hf hB h.bq h.br hB (Or.inr (Nat.le_refl _))⟩
      exact (hs y).symm.trans (mem_add h.mo hm y)
    · obtain ⟨xs, hown, hcs⟩ := hr.own (Nat.zero_le g)
      refine (set_new q r g cap n (some ⟨g, 0, none⟩) xs room f m e w h.qb hown (fun k hk => by simpa [Value.ownBlock] using hk.symm) hcs h.mr h.mo h.od hm hlt hroom t0 t1 k0 d0).mono fun x w' ⟨hx, ⟨g', cap', f', m', hq, hmo, hod, hs, hg'⟩, hf⟩ => ?_
      have hBg : B ≤ g' := by omega
      refine ⟨hx, ⟨_, n + 1, f', m', ⟨hq.qb, hq.mr, hmo, hod, Or.inr ⟨g', cap', rfl, hq.hr, hBg⟩, h.bq, h.br⟩, by simp, fun y => ?_⟩, QF.of_fr hf hB h.bq h.br hb (Or.inl rfl)⟩
      exact (hs y).symm.trans (mem_add h.mo hm y)
theorem find_ok (B q r n : Nat) (hv : Value) (room : Int) (f : Nat → Ev) (m : Int → Int → Option Nat) (a b : Int) (w : World) (h : QS B w q r hv room n f m) :
    Calls Tryd.prog 10 #[.pointer (some ⟨q, 0, none⟩), .int .i64 a, .int .i64 b] w fun x w' => x = .returned (.tuple #[.int .i64 (match m a b with | some i => (f i).t | none => 0), .bool (m a b).isSome]) ∧ w' = w := by
  cases hm : m a b with
  | none => exact find_none q r room hv m a b w h.qb h.mr hm
  | some i =>
    obtain ⟨hi, _, _⟩ := h.mo.of_ _ _ _ hm
    rcases h.hp with ⟨h1, h2⟩ | ⟨g, cap, rfl, hr, hb⟩
    · omega
    · exact find_some q r room g cap n i f m a b w ⟨h.qb, hr, h.mr⟩ hi hm
theorem QS.fresh {B : Nat} {w : World} {q r p : Nat} {hv : Value} {room : Int} {n : Nat} {f : Nat → Ev} {m : Int → Int → Option Nat} (h : QS B w q r hv room n f m) (hp : w.heap.size ≤ p) : p ≠ q ∧ p ≠ r ∧ hv.ownBlock ≠ some p := by
  have h1 := h.qb.lt
  have h2 := h.mr.lt
  exact ⟨by omega, by omega, fun e => by have := (h.own_lt e).1; omega⟩
end Go.Proofs.YtfbbkeekpkbjhaaDoor
