/- The queue refused, and what it leaves. -/
import Derived.Test.YtfbbkeekpkbjhaaDoorD7
import Derived.Test.YtfbbkeekpkbjhaaDoorN1
namespace Go.Proofs.YtfbbkeekpkbjhaaDoor
open Go.RowKit
set_option maxRecDepth 100000 in
theorem first_none (q r : Nat) (room : Int) (A : Option Addr) (cap : Nat) (w : World) (h : Blk w q 56 #[.int .i64 room, .slice A 0 cap, .map (some r)]) :
    Calls Tryd.prog 17 #[.pointer (some ⟨q, 0, none⟩)] w fun x w' => x = .returned (.tuple #[.agg z31, .bool false]) ∧ Below w.heap.size w w' := by
  have B1 := below_al (Below.refl w.heap.size w) (.cells z31 30)
  have h1 := h.below B1
  have zq := h1.lt
  have HL := Lib.hid (len_walk q r room _ 0 cap _ h1)
  have HB := Lib.hid (Blk.new w 30 z31)
  unfold z31 at *
  clear h h1
  go_enter Tryd.func17, Tryd.ntmps17
  go_upto_region 1 with (fail)
  generalize hW : w.alloc (Obj.cells #[Value.int IntKind.i64 0, Value.int IntKind.i64 0, Value.int IntKind.i64 0] 30) = W at *
  go_wp2_with (fail)
  refine HL.out.mono ?_
  rintro x w2 ⟨rfl, rfl⟩
  clear HL hW
  generalize hg2 : w.heap.size = p at *
  go_wp2_with (first | refine wpList_store_row rfl 30 _ _ rfl p #[.int .i64 0, .int .i64 0, .int .i64 0] rfl rfl 30 _ HB.out (by kernel_rfl) rfl (by kernel_rfl) ?_)
  have k6 : Blk (w2.setRow p #[.int .i64 0, .int .i64 0, .int .i64 0]) p 30 #[.int .i64 0, .int .i64 0, .int .i64 0] := setRow_heap _ _ _ _ _ _ HB.out
  refine bodyPost_ret (v := .tuple #[.agg #[.int .i64 0, .int .i64 0, .int .i64 0], .bool false]) (res_cell_tmp (p := 2) (u := 3) rfl _ _ p 30 _ _ rfl k6 Tryd.underlying30 rfl (by kernel_rfl)) rfl ⟨rfl, ?_⟩
  rw [hg2]
  exact below_setRow B1 (by omega) _
set_option maxRecDepth 100000 in
theorem drop_ok2 (B q r n i : Nat) (hv : Value) (room : Int) (f : Nat → Ev) (m : Int → Int → Option Nat) (a b : Int) (w : World) (h : QS B w q r hv room (n + 1) f m) (hB : B ≤ w.heap.size) (hn : n + 1 ≤ 65536) (hm : m a b = some i) :
    Calls Tryd.prog 11 #[.pointer (some ⟨q, 0, none⟩), .int .i64 a, .int .i64 b] w fun x w' => x = .returned (.bool true) ∧ (∃ hv' f' m', QS B w' q r hv' room n f' m' ∧ hv'.ownBlock = hv.ownBlock ∧ (∀ x, Mem n f' x ↔ Mem (n + 1) f x ∧ ¬ (x.k = a ∧ x.d = b))) ∧ QF B w w' q r hv := by
  obtain ⟨g, cap, rfl, hq, hb⟩ := h.rep (by omega)
  obtain ⟨hi, e1, e2⟩ := h.mo.of_ _ _ _ hm
  have TK := Lib.hid (take_walk q r g cap n i room f m w hq h.mo h.od hi hn)
  have MO := Lib.hid h.mo
  have BQ := Lib.hid (show B ≤ q ∧ B ≤ r from ⟨h.bq, h.br⟩)
  have E12 := Lib.hid (show (f i).k = a ∧ (f i).d = b from ⟨e1, e2⟩)
  obtain ⟨zq, c1, c2⟩ := hq.slots
  have hlk := run_lookT hq.mr a b
  rw [hm] at hlk
  unfold keyV at hlk
  clear h hq hm e1 e2
  go_enter Tryd.func11, Tryd.ntmps11
  go_wp2_with (fail)
  refine TK.out.mono ?_
  rintro x w2 ⟨rfl, ⟨f2, m2, h2, hm2, ho2, hs2⟩, F2⟩
  have key : ∀ x, Mem n f2 x → Mem (n + 1) f x ∧ ¬ (x.k = a ∧ x.d = b) := fun y hy => by
    obtain ⟨j, hj, rfl⟩ := (hs2 y).2 hy
    have key : ∃ i', i' ≠ i ∧ i' < n + 1 ∧ swp f i n j = f i' := by
      by_cases h0 : j = i
      · subst h0; exact ⟨n, by omega, by omega, swp_i⟩
      · exact ⟨j, h0, by omega, swp_o h0 (by omega)⟩
    obtain ⟨i', i0, i1, e⟩ := key
    rw [e]
    exact ⟨⟨i', i1, rfl⟩, fun hk => i0 (MO.out.inj i1 hi (by rw [E12.out.1, E12.out.2]; exact hk))⟩
  have key2 : ∀ x, Mem n f2 x ↔ Mem (n + 1) f x ∧ ¬ (x.k = a ∧ x.d = b) := fun y => ⟨key y, fun ⟨⟨j, hj, e⟩, hne⟩ => by
    subst e
    refine (hs2 _).1 ?_
    have hji : j ≠ i := fun c => hne (by rw [c]; exact E12.out)
    by_cases hjn : j = n
    · subst hjn; exact ⟨i, by omega, swp_i⟩
    · exact ⟨j, by omega, swp_o hji hjn⟩⟩
  have KEY := Lib.hid key2
  have H2 := Lib.hid (show QS B w2 q r (.slice (some ⟨g, 0, none⟩) n cap) room n f2 m2 from ⟨h2.qb, h2.mr, hm2, ho2, Or.inr ⟨g, cap, rfl, h2.hr, hb⟩, BQ.out.1, BQ.out.2⟩)
  have QF2 := Lib.hid (QF.of_fr (hv := .slice (some ⟨g, 0, none⟩) (n + 1) cap) F2 hB BQ.out.1 BQ.out.2 hb (Or.inl rfl))
  clear TK key key2 h2 hm2 ho2 hs2 F2 c1 c2 zq hlk
  go_wp2
  go_ret
  exact ⟨rfl, ⟨_, f2, m2, H2.out, rfl, KEY.out⟩, QF2.out⟩

theorem set_old_ok (B q r n i : Nat) (hv : Value) (room : Int) (f : Nat → Ev) (m : Int → Int → Option Nat) (e : Ev) (w : World) (h : QS B w q r hv room n f m) (hB : B ≤ w.heap.size) (hn : n ≤ 65536) (hm : m e.k e.d = some i)
    (t0 : 0 ≤ e.t) (t1 : e.t ≤ 4611686018427387904) (k0 : 0 ≤ e.k) (d0 : 0 ≤ e.d) :
    Calls Tryd.prog 7 #[.pointer (some ⟨q, 0, none⟩), .agg (evV e)] w fun x w' => x = .returned .nilIface ∧ (∃ hv' f' m', QS B w' q r hv' room n f' m' ∧ hv'.ownBlock = hv.ownBlock ∧ (∀ x, Mem n f' x ↔ x = e ∨ (Mem n f x ∧ ¬ (x.k = e.k ∧ x.d = e.d)))) ∧ QF B w w' q r hv := by
  obtain ⟨hi, _, _⟩ := h.mo.of_ _ _ _ hm
  rcases h.hp with ⟨h1, h2⟩ | ⟨g, cap, rfl, hr, hb⟩
  · omega
  · refine (set_found q r g cap n i room f m e w ⟨h.qb, hr, h.mr⟩ h.mo h.od hm (by omega) t0 t1 k0 d0).mono fun x w' ⟨hx, ⟨f', m', hq, hmo, hod, hs⟩, hf⟩ => ?_
    refine ⟨hx, ⟨_, f', m', ⟨hq.qb, hq.mr, hmo, hod, Or.inr ⟨g, cap, rfl, hq.hr, hb⟩, h.bq, h.br⟩, rfl, fun y => ?_⟩, QF.of_fr hf hB h.bq h.br hb (Or.inl rfl)⟩
    exact (hs y).symm.trans (mem_over h.mo hm y)
set_option maxRecDepth 100000 in
theorem drop_no (q r : Nat) (room : Int) (hv : Value) (m : Int → Int → Option Nat) (a b : Int) (w : World) (h : Blk w q 56 #[.int .i64 room, hv, .map (some r)]) (hr : MapRep w r m) (hm : m a b = none) :
    Calls Tryd.prog 11 #[.pointer (some ⟨q, 0, none⟩), .int .i64 a, .int .i64 b] w fun x w' => x = .returned (.bool false) ∧ w' = w := by
  have c2 : w.cell? ⟨q, 2, none⟩ = some (.map (some r)) := by rw [h.cell]; rfl
  have zq := h.lt
  have hlk := run_lookT hr a b
  rw [hm] at hlk
  unfold keyV at hlk
  clear h hr hm
  go_enter Tryd.func11, Tryd.ntmps11
  go_wp2
  go_ret
  exact ⟨rfl, rfl⟩
set_option maxRecDepth 100000 in
theorem set_bad (q : Nat) (e : Ev) (w : World) (hb : BadEv e) : Calls Tryd.prog 7 #[.pointer (some ⟨q, 0, none⟩), .agg (evV e)] w fun x w' => x = .returned (eN 1) ∧ Below w.heap.size w w' := by
  have BX := below_al (Below.refl w.heap.size w) (.cells (evV e) 30)
  have hx := Blk.new w 30 (evV e)
  have x0 : (w.alloc (.cells (evV e) 30)).cell? ⟨w.heap.size, 0, none⟩ = some (.int .i64 e.t) := by rw [hx.cell]; rfl
  have x1 : (w.alloc (.cells (evV e) 30)).cell? ⟨w.heap.size, 1, none⟩ = some (.int .i64 e.k) := by rw [hx.cell]; rfl
  have x2 : (w.alloc (.cells (evV e) 30)).cell? ⟨w.heap.size, 2, none⟩ = some (.int .i64 e.d) := by rw [hx.cell]; rfl
  have zp := hx.lt
  have HB := Lib.hid BX
  clear hx BX
  unfold evV at *
  have key : e.t < 0 ∨ (0 ≤ e.t ∧ 4611686018427387904 < e.t) ∨ (0 ≤ e.t ∧ e.t ≤ 4611686018427387904 ∧ e.k < 0) ∨ (0 ≤ e.t ∧ e.t ≤ 4611686018427387904 ∧ 0 ≤ e.k ∧ e.d < 0) := by unfold BadEv at hb; omega
  clear hb
  go_enter Tryd.func7, Tryd.ntmps7
  rcases key with h | ⟨h0, h⟩ | ⟨h0, h1, h⟩ | ⟨h0, h1, h2, h⟩
  · have n1 : decide (e.t < 0) = true := decide_eq_true h
    go_wp2
    go_ret
    exact ⟨rfl, HB.out⟩
  · have n1 : decide (e.t < 0) = false := decide_eq_false (by omega)
    have n2 : decide (4611686018427387904 < e.t) = true := decide_eq_true h
    go_wp2
    go_ret
    exact ⟨rfl, HB.out⟩
  · have n1 : decide (e.t < 0) = false := decide_eq_false (by omega)
    have n2 : decide (4611686018427387904 < e.t) = false := decide_eq_false (by omega)
    have n3 : decide (e.k < 0) = true := decide_eq_true h
    go_wp2
    go_ret
    exact ⟨rfl, HB.out⟩
  · have n1 : decide (e.t < 0) = false := decide_eq_false (by omega)
    have n2 : decide (4611686018427387904 < e.t) = false := decide_eq_false (by omega)
    have n3 : decide (e.k < 0) = false := decide_eq_false (by omega)
    have n4 : decide (e.d < 0) = true := decide_eq_true h
    go_wp2
    go_ret
    exact ⟨rfl, HB.out⟩
end Go.Proofs.YtfbbkeekpkbjhaaDoor
