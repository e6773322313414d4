/- QueueRuns walked. -/
import Derived.Test.YtfbbkeekpkbjhaaDoorD9
import Derived.Test.YtfbbkeekpkbjhaaDoorNum
import Derived.Deep.CutBlock
namespace Go.Proofs.YtfbbkeekpkbjhaaDoor
open Go.RowKit
set_option linter.unusedSimpArgs false
set_option linter.unusedVariables false
/-- The acts as they came in. -/
def Quad (w : World) (A : Option Addr) (n : Nat) (xs ys zs us : Nat → Int) : Prop :=
  n ≤ 9223372036854775807 ∧ (0 < n → ∃ ad, A = some ad ∧ ad.block < w.heap.size ∧ ∀ j, j < n → w.cell? (ad.add (j * 4)) = some (.int .i64 (xs j)) ∧ w.cell? ⟨(ad.add (j * 4)).block, (ad.add (j * 4)).off + 1, none⟩ = some (.int .i64 (ys j)) ∧ w.cell? ⟨(ad.add (j * 4)).block, (ad.add (j * 4)).off + 2, none⟩ = some (.int .i64 (zs j)) ∧ w.cell? ⟨(ad.add (j * 4)).block, (ad.add (j * 4)).off + 3, none⟩ = some (.int .i64 (us j)))
/-- A block beside a queue. -/
structure PO (w : World) (p : Nat) (Q R : Nat) (hv : Value) (cs : Array Value) : Prop where
  blk : Blk w p 40 cs
  q : p ≠ Q
  r : p ≠ R
  o : hv.ownBlock ≠ some p
theorem PO.below {w w' : World} {p Q R : Nat} {hv : Value} {cs : Array Value} (h : PO w p Q R hv cs) (k : Below w.heap.size w w') : PO w' p Q R hv cs := ⟨h.blk.below k, h.q, h.r, h.o⟩
theorem PO.qf {B : Nat} {w w' : World} {p Q R : Nat} {hv hv' : Value} {cs : Array Value} (h : PO w p Q R hv cs) (k : QF B w w' Q R hv) (hn : ∀ k, hv'.ownBlock = some k → hv.ownBlock = some k ∨ w.heap.size ≤ k) : PO w' p Q R hv' cs :=
  ⟨(k.far p h.blk.lt h.q h.r h.o).trans h.blk, h.q, h.r, fun c => by
    rcases hn p c with d | d
    · exact h.o d
    · have := h.blk.lt; omega⟩
def ST (B : Nat) (w : World) (Q R : Nat) (room : Int) (p : Nat) (cs : Array Value) (v : Value) (wx : World) : Prop :=
  ∃ hv L f m, RI B w wx Q R room hv v L f m ∧ PO wx p Q R hv cs
set_option maxRecDepth 100000 in
set_option maxHeartbeats 40000000 in
theorem runs_walk (a0 : Int) (A : Option Addr) (N cap : Nat) (xs ys zs us : Nat → Int) (w : World) (hg : ErrType w) (hi : Quad w A N xs ys zs us) : Calls Tryd.prog 4 #[.int .i64 a0, .slice A N cap] w fun x w' => x = .returned (.bool true) ∧ Below w.heap.size w w' := by
  have hN := hi.1
  have hAB : ∀ ad, A = some ad → 0 < N → ad.block < w.heap.size := fun ad e h0 => by
    obtain ⟨ad', e', hl, _⟩ := hi.2 h0
    rw [e] at e'; cases e'; exact hl
  have HI := Lib.hid hi; have HAB := Lib.hid hAB
  have HG := Lib.hid hg
  have HGP := Lib.hid (fun (wx : World) (b : Below w.heap.size w wx) => hg.below b)
  clear hi hAB hg
  obtain ⟨p0, p1⟩ := u64m_bd a0 20 (by decide)
  have w0 : IntKind.i64.wrap ((IntKind.u64.wrap a0).tmod 20) = (IntKind.u64.wrap a0).tmod 20 := by rw [IntKind.wrap_i64]; omega
  have w1 : IntKind.i64.wrap (1 + (IntKind.u64.wrap a0).tmod 20) = 1 + (IntKind.u64.wrap a0).tmod 20 := by rw [IntKind.wrap_i64]; omega
  obtain ⟨R, hR⟩ := Int.eq_ofNat_of_zero_le (show 0 ≤ 1 + (IntKind.u64.wrap a0).tmod 20 by omega)
  go_enter Tryd.func4, Tryd.ntmps4
  go_upto_region 2 with (fail)
  have r1 : 1 ≤ R := by omega
  have r60 : R ≤ 20 := by omega
  clear hR p0 p1 w0 w1
  go_wp2_with (fail)
  refine (new_qs R w (by omega) (by omega)).mono ?_
  rintro x w1 ⟨rfl, h1, B1⟩
  have H1 := Lib.hid (show RI w.heap.size w w1 (w.heap.size + 1) w.heap.size R (.slice none 0 0) (.slice none 0 0) [] (fun _ => ⟨0, 0, 0⟩) (fun _ _ => none) from ⟨h1, ⟨List.Pairwise.nil, (fun x hx => by cases hx)⟩, (fun y => ⟨(fun h => by cases h), (fun ⟨i, hi, _⟩ => by simp at hi)⟩), World.ownsRow_nil _ _ _ _, (fun k hk => by cases hk), B1, by simp⟩)
  clear h1 B1
  go_upto_region 7 with (fail)
  generalize hQ : w.heap.size + 1 = Q at *
  generalize hB : w.heap.size = B at *
  clear hQ
  go_loopw [9, 8] (fun iv xv wr => ∃ (i : Nat) (hv : Value) (L : List Ev) (f : Nat → Ev) (m : Int → Int → Option Nat), i ≤ N ∧ iv = .int .i64 i ∧ RI B w wr Q B R hv xv L f m) (fun iv _ _ => N - (intOf iv).toNat)
  case atStart => exact ⟨0, _, _, _, _, Nat.zero_le _, rfl, H1.out⟩
  case round =>
    clear H1
    obtain ⟨i, hv, L, f, m, hiN, rfl, hri⟩ := hrel
    have i0 : (0 : Int) ≤ i := by omega
    have hBw : B ≤ wr.heap.size := by have := hri.bel.size; omega
    by_cases hlt : i < N ∧ i < 120
    · obtain ⟨hlt, h120⟩ := hlt
      have hlt' : (i : Int) < N := by omega
      have hlt2 : (i : Int) < 120 := by omega
      obtain ⟨ad, rfl, hadl, hc⟩ := HI.out.2 (by omega)
      have hadB := HAB.out ad rfl (by omega)
      obtain ⟨a0, a1, a2, a3⟩ := hc i hlt
      have zad : ad.block < wr.heap.size := by omega
      have c0 := (hri.bel.cell (p := ad.add (i * 4)) (by rw [add_block]; exact hadB)).trans a0
      have c1 := (hri.bel.cell (p := ⟨(ad.add (i * 4)).block, (ad.add (i * 4)).off + 1, none⟩) (by show (ad.add (i * 4)).block < B; rw [add_block]; exact hadB)).trans a1
      have c2 := (hri.bel.cell (p := ⟨(ad.add (i * 4)).block, (ad.add (i * 4)).off + 2, none⟩) (by show (ad.add (i * 4)).block < B; rw [add_block]; exact hadB)).trans a2
      have c3 := (hri.bel.cell (p := ⟨(ad.add (i * 4)).block, (ad.add (i * 4)).off + 3, none⟩) (by show (ad.add (i * 4)).block < B; rw [add_block]; exact hadB)).trans a3
      clear a0 a1 a2 a3 hc
      generalize xs i = x at *
      generalize ys i = y at *
      generalize zs i = z at *
      generalize us i = u at *
      obtain ⟨p0, p1⟩ := u64m_bd x 7 (by decide)
      have w0 : IntKind.i64.wrap ((IntKind.u64.wrap x).tmod 7) = (IntKind.u64.wrap x).tmod 7 := by rw [IntKind.wrap_i64]; omega
      have HRI := Lib.hid hri
      clear hri
      go_upto_region 10 with (fail)
      have hbp := Blk.new wr 40 #[.int .i64 x, .int .i64 y, .int .i64 z, .int .i64 u]
      have BP := below_al (Below.refl wr.heap.size wr) (.cells #[.int .i64 x, .int .i64 y, .int .i64 z, .int .i64 u] 40)
      have hri2 := HRI.out.below hBw BP
      have hpo : PO (wr.alloc (.cells #[.int .i64 x, .int .i64 y, .int .i64 z, .int .i64 u] 40)) wr.heap.size Q B hv #[.int .i64 x, .int .i64 y, .int .i64 z, .int .i64 u] := by
        obtain ⟨f1, f2, f3⟩ := HRI.out.qs.fresh (Nat.le_refl wr.heap.size)
        exact ⟨hbp, f1, f2, f3⟩
      clear HRI BP c0 c1 c2 c3
      generalize hW : wr.alloc (Obj.cells #[Value.int IntKind.i64 x, Value.int IntKind.i64 y, Value.int IntKind.i64 z, Value.int IntKind.i64 u] 40) = W at *
      generalize hp : wr.heap.size = p at *
      clear hW hp zad
      have hBW : B ≤ W.heap.size := by have := hri2.bel.size; omega
      have x0 : W.cell? ⟨p, 0, none⟩ = some (.int .i64 x) := by rw [hbp.cell]; rfl
      have zp := hbp.lt
      clear hbp
      go_upto_block 2 with (fail)
      clear x0 w0
      generalize (IntKind.u64.wrap x).tmod 7 = k at *
      have HRI := Lib.hid hri2
      have HPO := Lib.hid hpo
      clear hri2 hpo
      go_cut [8] from 38 to 209 (fun v8 wx => ST B w Q B R p #[.int .i64 x, .int .i64 y, .int .i64 z, .int .i64 u] v8 wx)
      case first =>
        obtain ⟨A1, cap1, rfl, hx1⟩ := HRI.out.rd.form
        clear hx1
        have hbk := HPO.out.blk
        have P1 : W.cell? ⟨p, 1, none⟩ = some (.int .i64 y) := by rw [hbk.cell]; rfl
        have P2 : W.cell? ⟨p, 2, none⟩ = some (.int .i64 z) := by rw [hbk.cell]; rfl
        have P3 : W.cell? ⟨p, 3, none⟩ = some (.int .i64 u) := by rw [hbk.cell]; rfl
        have zp := hbk.lt
        clear hbk
        by_cases hk4 : k < 4
        · as_aux_lemma =>
            by_cases hbad : BadEv ⟨y, z, u⟩
            · have RS := Lib.hid (refset_bad A1 L.length cap1 R ⟨y, z, u⟩ W hbad)
              have SB := Lib.hid (fun w1 => set_bad Q ⟨y, z, u⟩ w1 hbad)
              unfold evV at RS SB
              clear hbad
              go_wp2_with (fail)
              refine RS.out.mono ?_
              rintro r w1 ⟨rfl, b1⟩
              have ri1 := HRI.out.below hBW b1
              have po1 := HPO.out.below b1
              clear P1 P2 P3 zp
              have hbk := po1.blk
              have P1 : w1.cell? ⟨p, 1, none⟩ = some (.int .i64 y) := by rw [hbk.cell]; rfl
              have P2 : w1.cell? ⟨p, 2, none⟩ = some (.int .i64 z) := by rw [hbk.cell]; rfl
              have P3 : w1.cell? ⟨p, 3, none⟩ = some (.int .i64 u) := by rw [hbk.cell]; rfl
              have zp := hbk.lt
              clear hbk
              have RI1 := Lib.hid ri1
              have PO1 := Lib.hid po1
              clear ri1 po1 b1 RS HRI HPO
              go_wp2_with (fail)
              refine (SB.out _).mono ?_
              rintro r w2 ⟨rfl, b2⟩
              have hB1 := RI1.out.size (by omega)
              have ri2 := Lib.hid (RI1.out.below hB1 b2)
              have po2 := Lib.hid (PO1.out.below b2)
              clear RI1 PO1 b2 SB P1 P2 P3 zp
              unfold eN
              go_wp2_with (fail)
              refine (num_hit 1 _ (HGP.out _ ri2.out.bel)).mono ?_
              rintro r w3 ⟨rfl, b3⟩
              have hB2 := ri2.out.size (by omega)
              have ri3 := Lib.hid (ri2.out.below hB2 b3)
              have po3 := Lib.hid (po2.out.below b3)
              clear ri2 po2 b3
              go_wp2_with (fail)
              go_meet
              exact ⟨hv, L, f, m, ri3.out, po3.out⟩
            · have hg : 0 ≤ y ∧ y ≤ 4611686018427387904 ∧ 0 ≤ z ∧ 0 ≤ u := by unfold BadEv at hbad; simp only at hbad; omega
              obtain ⟨t0, t1, k0, d0⟩ := hg
              clear hbad
              have hL20 := HRI.out.le
              rcases HRI.out.key z u with ⟨hm, hno⟩ | ⟨ii, jj, hm, hjj, hfj, hkd, hin⟩
              · by_cases hroom : (L.length : Int) < R
                · have RS := Lib.hid (refset_new (.slice A1 L.length cap1) L R ⟨y, z, u⟩ W HRI.out.rd (by omega) t0 t1 k0 d0 hroom hno)
                  have HNO := Lib.hid (show ∀ x ∈ L, ¬ KD x z u from hno)
                  have SN := Lib.hid (fun w1 (b1 : Below W.heap.size W w1) (hB : B ≤ w1.heap.size) => set_new_ok B Q B L.length hv R f m ⟨y, z, u⟩ w1 (HRI.out.qs.below b1) hB (by omega) hroom hm t0 t1 k0 d0)
                  unfold evV at RS SN
                  clear hm hno t0 t1 k0 d0
                  go_wp2_with (fail)
                  refine RS.out.mono ?_
                  rintro r w1 ⟨v1, N1, rfl, M, hins, own, b1⟩
                  obtain rfl := owns_n own
                  obtain ⟨okM, memM, lenM⟩ := ins_law HRI.out.ok (e := ⟨y, z, u⟩) HNO.out hins
                  have po1 := HPO.out.below b1
                  have SN1 := Lib.hid (SN.out w1 b1 (Nat.le_trans hBW b1.size))
                  have MM := Lib.hid (And.intro okM (And.intro memM lenM))
                  have OW := Lib.hid (And.intro own b1)
                  clear P1 P2 P3 zp
                  have hbk := po1.blk
                  have P1 : w1.cell? ⟨p, 1, none⟩ = some (.int .i64 y) := by rw [hbk.cell]; rfl
                  have P2 : w1.cell? ⟨p, 2, none⟩ = some (.int .i64 z) := by rw [hbk.cell]; rfl
                  have P3 : w1.cell? ⟨p, 3, none⟩ = some (.int .i64 u) := by rw [hbk.cell]; rfl
                  have zp := hbk.lt
                  clear hbk
                  have PO1 := Lib.hid po1
                  clear po1 b1 own okM memM lenM hins RS SN HNO
                  go_wp2_with (fail)
                  refine SN1.out.mono ?_
                  rintro r w2 ⟨rfl, ⟨hv2, f2, m2, qs2, ow2, mem2⟩, F2⟩
                  rw [← MM.out.2.2] at qs2 mem2
                  have ri2 := Lib.hid (HRI.out.set hBW OW.out.2 OW.out.1 F2 qs2 ow2 MM.out.1 (fun q => by rw [MM.out.2.1 q, mem2 q, HRI.out.mem q]) (by have := MM.out.2.2; omega))
                  have po2 := Lib.hid (PO1.out.qf F2 ow2)
                  clear SN1 PO1 HRI HPO qs2 ow2 mem2 F2 OW P1 P2 P3 zp
                  go_wp2_with (fail)
                  refine (num_nil _).mono ?_
                  rintro r w3 ⟨rfl, b3⟩
                  have hB2 := ri2.out.size (by omega)
                  have ri3 := Lib.hid (ri2.out.below hB2 b3)
                  have po3 := Lib.hid (po2.out.below b3)
                  clear ri2 po2 b3 MM
                  go_wp2_with (fail)
                  go_meet
                  exact ⟨hv2, M, f2, m2, ri3.out, po3.out⟩
                · have RS := Lib.hid (refset_full (.slice A1 L.length cap1) L R ⟨y, z, u⟩ W HRI.out.rd (by omega) t0 t1 k0 d0 (by omega) hno)
                  have SN := Lib.hid (fun w1 (b1 : Below W.heap.size W w1) => full_ok B Q B L.length hv R f m ⟨y, z, u⟩ w1 (HRI.out.qs.below b1) hm (by omega) t0 t1 k0 d0)
                  unfold evV at RS SN
                  clear hm hno t0 t1 k0 d0
                  go_wp2_with (fail)
                  refine RS.out.mono ?_
                  rintro r w1 ⟨rfl, b1⟩
                  have ri1 := HRI.out.below hBW b1
                  have po1 := HPO.out.below b1
                  have SN1 := Lib.hid (SN.out w1 b1)
                  clear P1 P2 P3 zp
                  have hbk := po1.blk
                  have P1 : w1.cell? ⟨p, 1, none⟩ = some (.int .i64 y) := by rw [hbk.cell]; rfl
                  have P2 : w1.cell? ⟨p, 2, none⟩ = some (.int .i64 z) := by rw [hbk.cell]; rfl
                  have P3 : w1.cell? ⟨p, 3, none⟩ = some (.int .i64 u) := by rw [hbk.cell]; rfl
                  have zp := hbk.lt
                  clear hbk
                  have RI1 := Lib.hid ri1
                  have PO1 := Lib.hid po1
                  clear ri1 po1 b1 RS SN HRI HPO
                  go_wp2_with (fail)
                  refine SN1.out.mono ?_
                  rintro r w2 ⟨rfl, b2⟩
                  have hB1 := RI1.out.size (by omega)
                  have ri2 := Lib.hid (RI1.out.below hB1 b2)
                  have po2 := Lib.hid (PO1.out.below b2)
                  clear RI1 PO1 b2 SN1 P1 P2 P3 zp
                  unfold eN
                  go_wp2_with (fail)
                  refine (num_hit 10 _ (HGP.out _ ri2.out.bel)).mono ?_
                  rintro r w3 ⟨rfl, b3⟩
                  have hB2 := ri2.out.size (by omega)
                  have ri3 := Lib.hid (ri2.out.below hB2 b3)
                  have po3 := Lib.hid (po2.out.below b3)
                  clear ri2 po2 b3
                  go_wp2_with (fail)
                  go_meet
                  exact ⟨hv, L, f, m, ri3.out, po3.out⟩
              · have RS := Lib.hid (refset_old (.slice A1 L.length cap1) L R ⟨y, z, u⟩ W HRI.out.rd (by omega) t0 t1 k0 d0 ⟨f ii, hin, hkd⟩)
                have SN := Lib.hid (fun w1 (b1 : Below W.heap.size W w1) (hB : B ≤ w1.heap.size) => set_old_ok B Q B L.length ii hv R f m ⟨y, z, u⟩ w1 (HRI.out.qs.below b1) hB (by omega) hm t0 t1 k0 d0)
                unfold evV at RS SN
                clear hm t0 t1 k0 d0 hjj hfj hkd hin
                go_wp2_with (fail)
                refine RS.out.mono ?_
                rintro r w1 ⟨jx, hjx, hkx, v1, N1, rfl, M, hins, own, b1⟩
                obtain rfl := owns_n own
                obtain ⟨okE, memE, lenE⟩ := erase_law HRI.out.ok hjx hkx
                obtain ⟨okM, memM, lenM⟩ := ins_law okE (e := ⟨y, z, u⟩) (fun q hq => ((memE q).1 hq).2) hins
                have lenL : M.length = L.length := by omega
                have po1 := HPO.out.below b1
                have SN1 := Lib.hid (SN.out w1 b1 (Nat.le_trans hBW b1.size))
                have MM := Lib.hid (And.intro okM (And.intro (fun q => (memM q).trans (or_congr Iff.rfl (memE q))) lenL))
                have OW := Lib.hid (And.intro own b1)
                clear P1 P2 P3 zp
                have hbk := po1.blk
                have P1 : w1.cell? ⟨p, 1, none⟩ = some (.int .i64 y) := by rw [hbk.cell]; rfl
                have P2 : w1.cell? ⟨p, 2, none⟩ = some (.int .i64 z) := by rw [hbk.cell]; rfl
                have P3 : w1.cell? ⟨p, 3, none⟩ = some (.int .i64 u) := by rw [hbk.cell]; rfl
                have zp := hbk.lt
                clear hbk
                have PO1 := Lib.hid po1
                clear po1 b1 own okM memM lenM hins RS SN okE memE lenE lenL hjx hkx
                go_wp2_with (fail)
                refine SN1.out.mono ?_
                rintro r w2 ⟨rfl, ⟨hv2, f2, m2, qs2, ow2, mem2⟩, F2⟩
                rw [← MM.out.2.2] at qs2
                have ow3 : ∀ k, hv2.ownBlock = some k → hv.ownBlock = some k ∨ w1.heap.size ≤ k := fun k h => .inl (by rw [ow2] at h; exact h)
                have ri2 := Lib.hid (HRI.out.set hBW OW.out.2 OW.out.1 F2 qs2 ow3 MM.out.1 (fun q => by rw [MM.out.2.1 q, MM.out.2.2, mem2 q, HRI.out.mem q]; exact Iff.rfl) (by rw [MM.out.2.2]; exact HRI.out.le))
                have po2 := Lib.hid (PO1.out.qf F2 ow3)
                clear SN1 PO1 HRI HPO qs2 ow2 ow3 mem2 F2 OW P1 P2 P3 zp
                go_wp2_with (fail)
                refine (num_nil _).mono ?_
                rintro r w3 ⟨rfl, b3⟩
                have hB2 := ri2.out.size (by omega)
                have ri3 := Lib.hid (ri2.out.below hB2 b3)
                have po3 := Lib.hid (po2.out.below b3)
                clear ri2 po2 b3 MM
                go_wp2_with (fail)
                go_meet
                exact ⟨hv2, M, f2, m2, ri3.out, po3.out⟩
        · by_cases hk5 : k = 4
          · as_aux_lemma =>
              subst hk5
              have FD := Lib.hid (reffind_walk (.slice A1 L.length cap1) L z u W HRI.out.rd (by have := HRI.out.le; omega))
              go_wp2_with (fail)
              refine FD.out.mono ?_
              rintro r w1 ⟨rfl, rr, rfl, hfd⟩
              clear FD
              have hL20 := HRI.out.le
              rcases HRI.out.key z u with ⟨hm, hno⟩ | ⟨ii, jj, hm, hjj, hfj, hkd, hin⟩
              · obtain rfl : rr = -1 := by
                  rcases hfd with ⟨e, _⟩ | ⟨jx, hjx, _, hkx⟩
                  · exact e
                  · exact absurd hkx (hno _ (getD_mem hjx))
                have DN := Lib.hid (drop_no Q B R hv m z u w1 HRI.out.qs.qb HRI.out.qs.mr hm)
                clear hm hno hfd
                go_wp2_with (fail)
                refine DN.out.mono ?_
                rintro r w2 ⟨rfl, rfl⟩
                clear DN P1 P2 P3 zp
                go_wp2_with (fail)
                go_meet
                exact ⟨hv, L, f, m, HRI.out, HPO.out⟩
              · obtain ⟨jx, hjx, rfl, hkx⟩ : ∃ jx : Nat, jx < L.length ∧ rr = jx ∧ KD (L.getD jx ⟨0, 0, 0⟩) z u := by
                  rcases hfd with ⟨_, hno⟩ | ⟨jx, hjx, e, hkx⟩
                  · exact absurd hkd (hno _ hin)
                  · exact ⟨jx, hjx, e, hkx⟩
                obtain ⟨n, hn⟩ : ∃ n, L.length = n + 1 := ⟨L.length - 1, by omega⟩
                have DO := Lib.hid (drop_ok2 B Q B n ii hv R f m z u w1 (by rw [← hn]; exact HRI.out.qs) hBW (by omega) hm)
                have jx0 : (0 : Int) ≤ (jx : Int) := by omega
                have EL := Lib.hid (erase_law HRI.out.ok hjx hkx)
                have HJ := Lib.hid hjx
                have HN := Lib.hid hn
                clear hm hfd hjj hfj hkd hin hkx hjx hn hL20
                go_wp2_with (fail)
                refine DO.out.mono ?_
                rintro r w2 ⟨rfl, ⟨hv2, f2, m2, qs2, ow2, mem2⟩, F2⟩
                have ow3 : ∀ k, hv2.ownBlock = some k → hv.ownBlock = some k ∨ w1.heap.size ≤ k := fun k h => .inl (by rw [ow2] at h; exact h)
                have own2 := HRI.out.aside F2
                have BEL2 := Lib.hid (HRI.out.bel.trans F2.bel)
                have hB2 : B ≤ w2.heap.size := Nat.le_trans hBW F2.bel.size
                have PO2 := Lib.hid (HPO.out.qf F2 ow3)
                have WO := Lib.hid (without_walk (.slice A1 L.length cap1) L jx w2 (RdE.of_owns own2 rfl) HJ.out (by have := HRI.out.le; omega))
                have hn := HN.out
                have hn2 : n = (L.eraseIdx jx).length := by have := EL.out.2.2; omega
                rw [hn2] at qs2 mem2
                have QS2 := Lib.hid qs2
                have MM := Lib.hid (show ∀ y, y ∈ L.eraseIdx jx ↔ Mem (L.eraseIdx jx).length f2 y from fun q => by rw [EL.out.2.1 q, mem2 q, ← hn2, HRI.out.mem q, hn]; exact Iff.rfl)
                clear DO qs2 ow2 ow3 mem2 F2 own2 hn2 hn HN HJ P1 P2 P3 zp
                go_wp2_with (fail)
                refine WO.out.mono ?_
                rintro r w3 ⟨v3, rfl, own3, b3⟩
                have ri3 := Lib.hid (RI.take BEL2.out hB2 QS2.out b3 own3 EL.out.1 MM.out (by have h1 := EL.out.2.2; have h2 := HRI.out.le; omega))
                have po3 := Lib.hid (PO2.out.below b3)
                clear WO own3 b3 BEL2 QS2 EL MM PO2 HRI HPO
                go_wp2_with (fail)
                go_meet
                exact ⟨hv2, _, f2, m2, ri3.out, po3.out⟩
          · as_aux_lemma =>
              have hk6 : ¬ k = 4 := hk5
              have hkb : (k == 4) = false := by simp [hk5]
              have hL20 := HRI.out.le
              clear P1 P2 P3 zp
              by_cases hL0 : L.length = 0
              · obtain ⟨A2, cap2, rfl⟩ := HRI.out.qs.slice
                have PN := Lib.hid (pop_none Q B R A2 cap2 W (by have := HRI.out.qs.qb; rw [hL0] at this; exact this))
                unfold z31 at PN
                have HL0 := Lib.hid hL0
                simp only [hL0] at hL20 ⊢
                go_wp2_with (fail)
                refine PN.out.mono ?_
                rintro r w1 ⟨rfl, b1⟩
                have ri1 := HRI.out.below hBW b1
                have po1 := HPO.out.below b1
                have hB1 : B ≤ w1.heap.size := Nat.le_trans hBW b1.size
                clear PN HRI HPO b1
                go_upto_region 12 with (fail)
                have hq := Blk.new w1 30 #[.int .i64 0, .int .i64 0, .int .i64 0]
                have bq := below_al (Below.refl w1.heap.size w1) (.cells #[.int .i64 0, .int .i64 0, .int .i64 0] 30)
                have ri2 := Lib.hid (ri1.below hB1 bq)
                have po2 := Lib.hid (po1.below bq)
                clear ri1 po1 bq
                generalize w1.alloc (Obj.cells #[Value.int IntKind.i64 0, Value.int IntKind.i64 0, Value.int IntKind.i64 0] 30) = W2 at *
                generalize w1.heap.size = q at *
                have x0 : W2.cell? ⟨q, 0, none⟩ = some (.int .i64 0) := by rw [hq.cell]; rfl
                have x1 : W2.cell? ⟨q, 1, none⟩ = some (.int .i64 0) := by rw [hq.cell]; rfl
                have x2 : W2.cell? ⟨q, 2, none⟩ = some (.int .i64 0) := by rw [hq.cell]; rfl
                have zq := hq.lt
                clear hq
                go_quiet (fail)
                clear x0 x1 x2 zq
                have hB2 := ri2.out.size (by omega)
                have ri3 := Lib.hid (ri2.out.below hB2 (below_drewN (Below.refl _ _) nq))
                have po3 := Lib.hid (po2.out.below (below_drewN (Below.refl _ _) nq))
                clear ri2 po2
                go_wp2_with (fail)
                go_meet
                exact ⟨_, L, f, m, by simpa only [HL0.out] using ri3.out, po3.out⟩
              · obtain ⟨n, hn⟩ : ∃ n, L.length = n + 1 := ⟨L.length - 1, by omega⟩
                have PN := Lib.hid (pop_ok2 B Q B n hv R f m W (by rw [← hn]; exact HRI.out.qs) hBW (by omega))
                have h00 := HRI.out.first (by omega)
                generalize hE : f 0 = E at *
                unfold evV at PN
                have EL := Lib.hid (erase_law (i := 0) (a := E.k) (b := E.d) HRI.out.ok (by omega) (by rw [h00]; exact ⟨rfl, rfl⟩))
                have NE := Lib.hid (show ∀ q, q ∈ L → (¬ KD q E.k E.d ↔ q ≠ E) from fun q hq => ⟨fun h c => h (by rw [c]; exact ⟨rfl, rfl⟩), fun h c => h (HRI.out.ok.uniq q hq E (by rw [← h00]; exact getD_mem (by omega)) c.1 c.2)⟩)
                have H00 := Lib.hid h00
                have HN := Lib.hid hn
                have HL65 := Lib.hid (show L.length ≤ 65536 by omega)
                have HLP := Lib.hid (show (0 : Int) < (L.length : Int) by omega)
                clear h00 hn hL20 hL0
                go_wp2_with (fail)
                refine PN.out.mono ?_
                rintro r w2 ⟨rfl, ⟨hv2, f2, m2, qs2, ow2, mem2⟩, F2⟩
                have ow3 : ∀ k, hv2.ownBlock = some k → hv.ownBlock = some k ∨ W.heap.size ≤ k := fun k h => .inl (by rw [ow2] at h; exact h)
                have own2 := HRI.out.aside F2
                have bel2 := HRI.out.bel.trans F2.bel
                have hB1 : B ≤ w2.heap.size := Nat.le_trans hBW F2.bel.size
                have po2 := HPO.out.qf F2 ow3
                have hn := HN.out
                have hn2 : n = (L.eraseIdx 0).length := by have := EL.out.2.2; omega
                have MM := Lib.hid (show ∀ y, y ∈ L.eraseIdx 0 ↔ Mem (L.eraseIdx 0).length f2 y from fun q => by rw [EL.out.2.1 q, ← hn2, mem2 q, ← hn, ← HRI.out.mem q]; exact and_congr_right (NE.out q))
                rw [hn2] at qs2
                have hLp := HLP.out
                have hi0 : 0 < L.length := by omega
                clear PN ow2 ow3 mem2 F2 NE hn2 hn HN HLP
                go_upto_region 12 with (fail)
                have hq := Blk.new w2 30 (evV E)
                have bq := below_al (Below.refl w2.heap.size w2) (.cells (evV E) 30)
                have QS2 := Lib.hid (qs2.below bq)
                have rd3 := (RdE.of_owns own2 rfl).below bq
                have BEL2 := Lib.hid (bel2.trans (bq.mono hB1))
                have PO2 := Lib.hid (po2.below bq)
                clear qs2 own2 bel2 po2
                unfold evV at hq rd3 QS2 BEL2 PO2 bq
                generalize w2.alloc (Obj.cells #[Value.int IntKind.i64 E.t, Value.int IntKind.i64 E.k, Value.int IntKind.i64 E.d] 30) = W2 at *
                have hB2 : B ≤ W2.heap.size := Nat.le_trans hB1 bq.size
                generalize w2.heap.size = q at *
                have x0 : W2.cell? ⟨q, 0, none⟩ = some (.int .i64 E.t) := by rw [hq.cell]; rfl
                have x1 : W2.cell? ⟨q, 1, none⟩ = some (.int .i64 E.k) := by rw [hq.cell]; rfl
                have x2 : W2.cell? ⟨q, 2, none⟩ = some (.int .i64 E.d) := by rw [hq.cell]; rfl
                have zq := hq.lt
                have b4 := below_drewN (Below.refl W2.heap.size W2) 0
                obtain ⟨A3, cap3, e3, hx3, hx4, hx5, hh3⟩ := rd3.form
                clear hx3 hx4 hx5
                obtain ⟨g3, o3, rfl, zg, c0, c1, c2⟩ := hh3 0 (by omega)
                simp only [Value.slice.injEq] at e3
                obtain ⟨rfl, _, rfl⟩ := e3
                rw [H00.out] at c0 c1 c2
                simp only [Nat.zero_mul, Nat.add_zero] at c0 c1 c2
                have e1 : (E.t == E.t) = true := by simp
                have e2 : (E.k == E.k) = true := by simp
                have e4 : (E.d == E.d) = true := by simp
                have RD3 := Lib.hid rd3
                clear hq bq hh3 rd3 b4
                go_quiet (fail)
                clear x0 x1 x2 zq c0 c1 c2 zg e1 e2 e4
                have bd := below_drewN (Below.refl W2.heap.size W2) nq
                have WO := Lib.hid (without_walk _ L 0 (W2.drewN nq) (RD3.out.below bd) hi0 HL65.out)
                rw [show ((0 : Nat) : Int) = 0 from rfl] at WO
                replace BEL2 := Lib.hid (BEL2.out.trans (bd.mono hB2))
                replace QS2 := Lib.hid (QS2.out.below bd)
                replace PO2 := Lib.hid (PO2.out.below bd)
                replace hB2 : B ≤ (W2.drewN nq).heap.size := hB2
                clear bd RD3
                go_wp2_with (fail)
                refine WO.out.mono ?_
                rintro r w3 ⟨v3, rfl, own3, b3⟩
                have ri3 := Lib.hid (RI.take BEL2.out hB2 QS2.out b3 own3 EL.out.1 MM.out (by have h1 := EL.out.2.2; have h2 := HRI.out.le; omega))
                have po3 := Lib.hid (PO2.out.below b3)
                clear WO own3 b3 BEL2 QS2 EL MM PO2 HRI HPO
                go_wp2_with (fail)
                go_meet
                exact ⟨hv2, _, f2, m2, ri3.out, po3.out⟩
      case rest =>
        clear HRI HPO
        obtain ⟨hv, L, f, m, hri, hpo⟩ := hcut
        obtain ⟨A1, cap1, rfl, hx1⟩ := hri.rd.form
        clear hx1
        by_cases hL0 : L.length = 0
        · have hfound : ¬ (m z u).isSome = true := by
            rcases hri.key z u with ⟨hm, _⟩ | ⟨ii, jj, _, hjj, _⟩
            · simp [hm]
            · omega
          as_aux_lemma =>
            have hBc : B ≤ wc.heap.size := hri.size (by omega)
            have hL20 := hri.le
            obtain ⟨A2, cap2, rfl⟩ := hri.qs.slice
            have FS := Lib.hid (first_none Q B R A2 cap2 wc (by have := hri.qs.qb; rw [hL0] at this; exact this))
            unfold z31 at FS
            have hLz := Lib.hid hL0
            have HRI := Lib.hid hri
            have HPO := Lib.hid hpo
            clear hri hpo hL0 hL20
            go_wp2_with (fail)
            refine FS.out.mono ?_
            rintro r w1 ⟨rfl, b1⟩
            have ri1 := HRI.out.below hBc b1
            have po1 := HPO.out.below b1
            have hB1 : B ≤ w1.heap.size := Nat.le_trans hBc b1.size
            clear FS HRI HPO b1
            go_upto_region 28 with (fail)
            have hq := Blk.new w1 30 #[.int .i64 0, .int .i64 0, .int .i64 0]
            have bq := below_al (Below.refl w1.heap.size w1) (.cells #[.int .i64 0, .int .i64 0, .int .i64 0] 30)
            have ri2 := ri1.below hB1 bq
            have po2 := po1.below bq
            clear ri1 po1 bq
            skip
            generalize w1.alloc (Obj.cells #[Value.int IntKind.i64 0, Value.int IntKind.i64 0, Value.int IntKind.i64 0] 30) = W2 at *
            generalize w1.heap.size = q at *
            have hB2 : B ≤ W2.heap.size := ri2.size (by omega)
            have HRI := Lib.hid ri2
            have HPO := Lib.hid po2
            have HQ := Lib.hid hq
            have FD := Lib.hid (find_ok B Q B L.length (.slice A2 L.length cap2) R f m z u W2 ri2.qs)
            have RF := Lib.hid (reffind_walk _ L z u W2 ri2.rd (by have := ri2.le; omega))
            have hbk := po2.blk
            have P1 : W2.cell? ⟨p, 1, none⟩ = some (.int .i64 y) := by rw [hbk.cell]; rfl
            have P2 : W2.cell? ⟨p, 2, none⟩ = some (.int .i64 z) := by rw [hbk.cell]; rfl
            have P3 : W2.cell? ⟨p, 3, none⟩ = some (.int .i64 u) := by rw [hbk.cell]; rfl
            have zp := hbk.lt
            clear hbk
            have hno : ∀ x ∈ L, ¬ KD x z u := by
              rcases ri2.key z u with ⟨hm, hno⟩ | ⟨ii, jj, hm, hjj, hfj, hkd, hin⟩
              · exact hno
              · exact absurd hfound (by simp [hm])
            rw [Option.not_isSome_iff_eq_none.1 hfound] at FD
            simp only [Option.isSome] at FD
            have HNO := Lib.hid hno
            clear hno hfound
            clear ri2 po2 hq
            go_wp2_with (fail)
            refine FD.out.mono ?_
            rintro r w3 ⟨rfl, rfl⟩
            clear FD
            go_wp2_with (fail)
            refine RF.out.mono ?_
            rintro r w4 ⟨rfl, rr, rfl, hfd⟩
            clear RF P1 P2 P3 zp
            obtain rfl : rr = -1 := by
              rcases hfd with ⟨e, _⟩ | ⟨jx, hjx, _, hkx⟩
              · exact e
              · exact absurd hkx (HNO.out _ (getD_mem hjx))
            clear hfd HNO
            obtain ⟨W3, hW3⟩ : ∃ Z, Z = w4 := ⟨_, rfl⟩
            subst hW3
            go_upto_region 30 with (fail)
            have x0 : W3.cell? ⟨q, 0, none⟩ = some (.int .i64 0) := by rw [HQ.out.cell]; rfl
            have x1 : W3.cell? ⟨q, 1, none⟩ = some (.int .i64 0) := by rw [HQ.out.cell]; rfl
            have x2 : W3.cell? ⟨q, 2, none⟩ = some (.int .i64 0) := by rw [HQ.out.cell]; rfl
            have zq := HQ.out.lt
            have hrd := HRI.out.rd
            have HRD := Lib.hid hrd
            clear hrd
            have HL := Lib.hid (show L.length ≤ 65536 by have := HRI.out.le; omega)
            have hLz1 : (L.length : Int) = 0 := by have := hLz.out; omega
            refine wp_region_noPanic ?_
            refine wp_region_held_drew (S := (fun w' => Below W3.heap.size W3 w')) (by kernel_rfl) ?_ (fun hHeld => ?_)
            · exact below_drewN (Below.refl _ _) 1
            refine reg_take (i := 0) (oi := _) (v := ?_) rfl (by kernel_rfl) (by kernel_rfl) (by kernel_rfl) (fun _ _ _ h => h) (by rfl) ?_ (by assumption) ?_
            rotate_left
            · intro w hSw; (try dsimp only at hSw); replace x0 := bel_cell hSw x0; replace x1 := bel_cell hSw x1; replace x2 := bel_cell hSw x2; replace zq := Nat.lt_of_lt_of_le zq hSw.size; go_simp; try with_reducible rfl
            (try simp only [Act.put, List.setIfInBounds_toArray, List.set_cons_zero, List.set_cons_succ])
            refine reg_take (i := 1) (oi := _) (v := ?_) rfl (by kernel_rfl) (by kernel_rfl) (by kernel_rfl) (fun _ _ _ h => h) (by rfl) ?_ (by assumption) ?_
            rotate_left
            · intro w hSw; (try dsimp only at hSw); replace x0 := bel_cell hSw x0; replace x1 := bel_cell hSw x1; replace x2 := bel_cell hSw x2; replace zq := Nat.lt_of_lt_of_le zq hSw.size; go_simp; try with_reducible rfl
            (try simp only [Act.put, List.setIfInBounds_toArray, List.set_cons_zero, List.set_cons_succ])
            refine reg_take (i := 2) (oi := _) (v := ?_) rfl (by kernel_rfl) (by kernel_rfl) (by kernel_rfl) (fun _ _ _ h => h) (by rfl) ?_ (by assumption) ?_
            rotate_left
            · intro w hSw; (try dsimp only at hSw); replace x0 := bel_cell hSw x0; replace x1 := bel_cell hSw x1; replace x2 := bel_cell hSw x2; replace zq := Nat.lt_of_lt_of_le zq hSw.size; go_simp; try with_reducible rfl
            (try simp only [Act.put, List.setIfInBounds_toArray, List.set_cons_zero, List.set_cons_succ])
            refine reg_take (i := 3) (oi := _) (v := ?_) rfl (by kernel_rfl) (by kernel_rfl) (by kernel_rfl) (fun _ _ _ h => h) (by rfl) ?_ (by assumption) ?_
            rotate_left
            · intro w hSw; (try dsimp only at hSw); replace x0 := bel_cell hSw x0; replace x1 := bel_cell hSw x1; replace x2 := bel_cell hSw x2; replace zq := Nat.lt_of_lt_of_le zq hSw.size; go_simp; try with_reducible rfl
            (try simp only [Act.put, List.setIfInBounds_toArray, List.set_cons_zero, List.set_cons_succ])
            refine reg_take (i := 4) (oi := _) (v := ?_) rfl (by kernel_rfl) (by kernel_rfl) (by kernel_rfl) (fun _ _ _ h => h) (by rfl) ?_ (by assumption) ?_
            rotate_left
            · intro w hSw; (try dsimp only at hSw); replace x0 := bel_cell hSw x0; replace x1 := bel_cell hSw x1; replace x2 := bel_cell hSw x2; replace zq := Nat.lt_of_lt_of_le zq hSw.size; go_simp; try with_reducible rfl
            (try simp only [Act.put, List.setIfInBounds_toArray, List.set_cons_zero, List.set_cons_succ])
            refine reg_take (i := 5) (oi := _) (v := ?_) rfl (by kernel_rfl) (by kernel_rfl) (by kernel_rfl) (fun _ _ _ h => h) (by rfl) ?_ (by assumption) ?_
            rotate_left
            · intro w hSw; (try dsimp only at hSw); replace x0 := bel_cell hSw x0; replace x1 := bel_cell hSw x1; replace x2 := bel_cell hSw x2; replace zq := Nat.lt_of_lt_of_le zq hSw.size; go_simp; try with_reducible rfl
            (try simp only [Act.put, List.setIfInBounds_toArray, List.set_cons_zero, List.set_cons_succ])
            refine reg_take (i := 6) (oi := _) (v := ?_) rfl (by kernel_rfl) (by kernel_rfl) (by kernel_rfl) (fun _ _ _ h => h) (by rfl) ?_ (by assumption) ?_
            rotate_left
            · intro w hSw; (try dsimp only at hSw); replace x0 := bel_cell hSw x0; replace x1 := bel_cell hSw x1; replace x2 := bel_cell hSw x2; replace zq := Nat.lt_of_lt_of_le zq hSw.size; go_simp; try with_reducible rfl
            (try simp only [Act.put, List.setIfInBounds_toArray, List.set_cons_zero, List.set_cons_succ])
            refine reg_take (i := 7) (oi := _) (v := ?_) rfl (by kernel_rfl) (by kernel_rfl) (by kernel_rfl) (fun _ _ _ h => h) (by rfl) ?_ (by assumption) ?_
            rotate_left
            · intro w hSw; (try dsimp only at hSw); replace x0 := bel_cell hSw x0; replace x1 := bel_cell hSw x1; replace x2 := bel_cell hSw x2; replace zq := Nat.lt_of_lt_of_le zq hSw.size; go_simp; try with_reducible rfl
            (try simp only [Act.put, List.setIfInBounds_toArray, List.set_cons_zero, List.set_cons_succ])
            refine reg_skip (i := 8) (oi := _) rfl (by kernel_rfl) (by kernel_rfl) (by kernel_rfl) (fun _ _ _ h => h) (by rfl) (by assumption) ?_
            (try simp only [Act.put, List.setIfInBounds_toArray, List.set_cons_zero, List.set_cons_succ])
            refine reg_skip (i := 9) (oi := _) rfl (by kernel_rfl) (by kernel_rfl) (by kernel_rfl) (fun _ _ _ h => h) (by rfl) (by assumption) ?_
            (try simp only [Act.put, List.setIfInBounds_toArray, List.set_cons_zero, List.set_cons_succ])
            refine reg_skip (i := 10) (oi := _) rfl (by kernel_rfl) (by kernel_rfl) (by kernel_rfl) (fun _ _ _ h => h) (by rfl) (by assumption) ?_
            (try simp only [Act.put, List.setIfInBounds_toArray, List.set_cons_zero, List.set_cons_succ])
            refine reg_skip (i := 11) (oi := _) rfl (by kernel_rfl) (by kernel_rfl) (by kernel_rfl) (fun _ _ _ h => h) (by rfl) (by assumption) ?_
            (try simp only [Act.put, List.setIfInBounds_toArray, List.set_cons_zero, List.set_cons_succ])
            refine reg_skip (i := 12) (oi := _) rfl (by kernel_rfl) (by kernel_rfl) (by kernel_rfl) (fun _ _ _ h => h) (by rfl) (by assumption) ?_
            (try simp only [Act.put, List.setIfInBounds_toArray, List.set_cons_zero, List.set_cons_succ])
            refine reg_take (i := 13) (oi := _) (v := ?_) rfl (by kernel_rfl) (by kernel_rfl) (by kernel_rfl) (fun _ _ _ h => h) (by rfl) ?_ (by assumption) ?_
            rotate_left
            · intro w hSw; (try dsimp only at hSw); replace x0 := bel_cell hSw x0; replace x1 := bel_cell hSw x1; replace x2 := bel_cell hSw x2; replace zq := Nat.lt_of_lt_of_le zq hSw.size; go_simp; try with_reducible rfl
            (try simp only [Act.put, List.setIfInBounds_toArray, List.set_cons_zero, List.set_cons_succ])
            refine reg_take (i := 14) (oi := _) (v := ?_) rfl (by kernel_rfl) (by kernel_rfl) (by kernel_rfl) (fun _ _ _ h => h) (by rfl) ?_ (by assumption) ?_
            rotate_left
            · intro w hSw; (try dsimp only at hSw); replace x0 := bel_cell hSw x0; replace x1 := bel_cell hSw x1; replace x2 := bel_cell hSw x2; replace zq := Nat.lt_of_lt_of_le zq hSw.size; go_simp; try with_reducible rfl
            (try simp only [Act.put, List.setIfInBounds_toArray, List.set_cons_zero, List.set_cons_succ])
            refine reg_take (i := 15) (oi := _) (v := ?_) rfl (by kernel_rfl) (by kernel_rfl) (by kernel_rfl) (fun _ _ _ h => h) (by rfl) ?_ (by assumption) ?_
            rotate_left
            · intro w hSw; (try dsimp only at hSw); replace x0 := bel_cell hSw x0; replace x1 := bel_cell hSw x1; replace x2 := bel_cell hSw x2; replace zq := Nat.lt_of_lt_of_le zq hSw.size; go_simp; try with_reducible rfl
            (try simp only [Act.put, List.setIfInBounds_toArray, List.set_cons_zero, List.set_cons_succ])
            refine reg_take (i := 16) (oi := _) (v := ?_) rfl (by kernel_rfl) (by kernel_rfl) (by kernel_rfl) (fun _ _ _ h => h) (by rfl) ?_ (by assumption) ?_
            rotate_left
            · intro w hSw; (try dsimp only at hSw); replace x0 := bel_cell hSw x0; replace x1 := bel_cell hSw x1; replace x2 := bel_cell hSw x2; replace zq := Nat.lt_of_lt_of_le zq hSw.size; go_simp; try with_reducible rfl
            (try simp only [Act.put, List.setIfInBounds_toArray, List.set_cons_zero, List.set_cons_succ])
            refine reg_take (i := 17) (oi := _) (v := ?_) rfl (by kernel_rfl) (by kernel_rfl) (by kernel_rfl) (fun _ _ _ h => h) (by rfl) ?_ (by assumption) ?_
            rotate_left
            · intro w hSw; (try dsimp only at hSw); replace x0 := bel_cell hSw x0; replace x1 := bel_cell hSw x1; replace x2 := bel_cell hSw x2; replace zq := Nat.lt_of_lt_of_le zq hSw.size; go_simp; try with_reducible rfl
            (try simp only [Act.put, List.setIfInBounds_toArray, List.set_cons_zero, List.set_cons_succ])
            refine reg_take (i := 18) (oi := _) (v := ?_) rfl (by kernel_rfl) (by kernel_rfl) (by kernel_rfl) (fun _ _ _ h => h) (by rfl) ?_ (by assumption) ?_
            rotate_left
            · intro w hSw; (try dsimp only at hSw); replace x0 := bel_cell hSw x0; replace x1 := bel_cell hSw x1; replace x2 := bel_cell hSw x2; replace zq := Nat.lt_of_lt_of_le zq hSw.size; go_simp; try with_reducible rfl
            (try simp only [Act.put, List.setIfInBounds_toArray, List.set_cons_zero, List.set_cons_succ])
            refine reg_take (i := 19) (oi := _) (v := ?_) rfl (by kernel_rfl) (by kernel_rfl) (by kernel_rfl) (fun _ _ _ h => h) (by rfl) ?_ (by assumption) ?_
            rotate_left
            · intro w hSw; (try dsimp only at hSw); replace x0 := bel_cell hSw x0; replace x1 := bel_cell hSw x1; replace x2 := bel_cell hSw x2; replace zq := Nat.lt_of_lt_of_le zq hSw.size; go_simp; try with_reducible rfl
            (try simp only [Act.put, List.setIfInBounds_toArray, List.set_cons_zero, List.set_cons_succ])
            refine reg_take (i := 20) (oi := _) (v := ?_) rfl (by kernel_rfl) (by kernel_rfl) (by kernel_rfl) (fun _ _ _ h => h) (by rfl) ?_ (by assumption) ?_
            rotate_left
            · intro w hSw; (try dsimp only at hSw); replace x0 := bel_cell hSw x0; replace x1 := bel_cell hSw x1; replace x2 := bel_cell hSw x2; replace zq := Nat.lt_of_lt_of_le zq hSw.size; go_simp; try with_reducible rfl
            (try simp only [Act.put, List.setIfInBounds_toArray, List.set_cons_zero, List.set_cons_succ])
            refine reg_take (i := 21) (oi := _) (v := ?_) rfl (by kernel_rfl) (by kernel_rfl) (by kernel_rfl) (fun _ _ _ h => h) (by rfl) ?_ (by assumption) ?_
            rotate_left
            · intro w hSw; (try dsimp only at hSw); replace x0 := bel_cell hSw x0; replace x1 := bel_cell hSw x1; replace x2 := bel_cell hSw x2; replace zq := Nat.lt_of_lt_of_le zq hSw.size; go_simp; try with_reducible rfl
            (try simp only [Act.put, List.setIfInBounds_toArray, List.set_cons_zero, List.set_cons_succ])
            refine reg_take (i := 22) (oi := _) (v := ?_) rfl (by kernel_rfl) (by kernel_rfl) (by kernel_rfl) (fun _ _ _ h => h) (by rfl) ?_ (by assumption) ?_
            rotate_left
            · intro w hSw; (try dsimp only at hSw); replace x0 := bel_cell hSw x0; replace x1 := bel_cell hSw x1; replace x2 := bel_cell hSw x2; replace zq := Nat.lt_of_lt_of_le zq hSw.size; go_simp; try with_reducible rfl
            (try simp only [Act.put, List.setIfInBounds_toArray, List.set_cons_zero, List.set_cons_succ])
            refine reg_take (i := 23) (oi := _) (v := ?_) rfl (by kernel_rfl) (by kernel_rfl) (by kernel_rfl) (fun _ _ _ h => h) (by rfl) ?_ (by assumption) ?_
            rotate_left
            · intro w hSw; (try dsimp only at hSw); replace x0 := bel_cell hSw x0; replace x1 := bel_cell hSw x1; replace x2 := bel_cell hSw x2; replace zq := Nat.lt_of_lt_of_le zq hSw.size; go_simp; try with_reducible rfl
            (try simp only [Act.put, List.setIfInBounds_toArray, List.set_cons_zero, List.set_cons_succ])
            refine reg_skip (i := 24) (oi := _) rfl (by kernel_rfl) (by kernel_rfl) (by kernel_rfl) (fun _ _ _ h => h) (by rfl) (by assumption) ?_
            (try simp only [Act.put, List.setIfInBounds_toArray, List.set_cons_zero, List.set_cons_succ])
            refine reg_skip (i := 25) (oi := _) rfl (by kernel_rfl) (by kernel_rfl) (by kernel_rfl) (fun _ _ _ h => h) (by rfl) (by assumption) ?_
            (try simp only [Act.put, List.setIfInBounds_toArray, List.set_cons_zero, List.set_cons_succ])
            refine reg_skip (i := 26) (oi := _) rfl (by kernel_rfl) (by kernel_rfl) (by kernel_rfl) (fun _ _ _ h => h) (by rfl) (by assumption) ?_
            (try simp only [Act.put, List.setIfInBounds_toArray, List.set_cons_zero, List.set_cons_succ])
            refine reg_skip (i := 27) (oi := _) rfl (by kernel_rfl) (by kernel_rfl) (by kernel_rfl) (fun _ _ _ h => h) (by rfl) (by assumption) ?_
            (try simp only [Act.put, List.setIfInBounds_toArray, List.set_cons_zero, List.set_cons_succ])
            refine reg_skip (i := 28) (oi := _) rfl (by kernel_rfl) (by kernel_rfl) (by kernel_rfl) (fun _ _ _ h => h) (by rfl) (by assumption) ?_
            (try simp only [Act.put, List.setIfInBounds_toArray, List.set_cons_zero, List.set_cons_succ])
            refine reg_skip (i := 29) (oi := _) rfl (by kernel_rfl) (by kernel_rfl) (by kernel_rfl) (fun _ _ _ h => h) (by rfl) (by assumption) ?_
            (try simp only [Act.put, List.setIfInBounds_toArray, List.set_cons_zero, List.set_cons_succ])
            refine reg_skip (i := 30) (oi := _) rfl (by kernel_rfl) (by kernel_rfl) (by kernel_rfl) (fun _ _ _ h => h) (by rfl) (by assumption) ?_
            (try simp only [Act.put, List.setIfInBounds_toArray, List.set_cons_zero, List.set_cons_succ])
            refine reg_take (i := 31) (oi := _) (v := ?_) rfl (by kernel_rfl) (by kernel_rfl) (by kernel_rfl) (fun _ _ _ h => h) (by rfl) ?_ (by assumption) ?_
            rotate_left
            · intro w hSw; (try dsimp only at hSw); replace x0 := bel_cell hSw x0; replace x1 := bel_cell hSw x1; replace x2 := bel_cell hSw x2; replace zq := Nat.lt_of_lt_of_le zq hSw.size; go_simp; try with_reducible rfl
            (try simp only [Act.put, List.setIfInBounds_toArray, List.set_cons_zero, List.set_cons_succ])
            refine reg_take (i := 32) (oi := _) (v := ?_) rfl (by kernel_rfl) (by kernel_rfl) (by kernel_rfl) (fun _ _ _ h => h) (by rfl) ?_ (by assumption) ?_
            rotate_left
            · intro w hSw; (try dsimp only at hSw); replace x0 := bel_cell hSw x0; replace x1 := bel_cell hSw x1; replace x2 := bel_cell hSw x2; replace zq := Nat.lt_of_lt_of_le zq hSw.size; go_simp; try with_reducible rfl
            (try simp only [Act.put, List.setIfInBounds_toArray, List.set_cons_zero, List.set_cons_succ])
            refine reg_take (i := 33) (oi := _) (v := ?_) rfl (by kernel_rfl) (by kernel_rfl) (by kernel_rfl) (fun _ _ _ h => h) (by rfl) ?_ (by assumption) ?_
            rotate_left
            · intro w hSw; (try dsimp only at hSw); replace x0 := bel_cell hSw x0; replace x1 := bel_cell hSw x1; replace x2 := bel_cell hSw x2; replace zq := Nat.lt_of_lt_of_le zq hSw.size; go_simp; try with_reducible rfl
            (try simp only [Act.put, List.setIfInBounds_toArray, List.set_cons_zero, List.set_cons_succ])
            refine reg_take (i := 34) (oi := _) (v := ?_) rfl (by kernel_rfl) (by kernel_rfl) (by kernel_rfl) (fun _ _ _ h => h) (by rfl) ?_ (by assumption) ?_
            rotate_left
            · intro w hSw; (try dsimp only at hSw); replace x0 := bel_cell hSw x0; replace x1 := bel_cell hSw x1; replace x2 := bel_cell hSw x2; replace zq := Nat.lt_of_lt_of_le zq hSw.size; go_simp; try with_reducible rfl
            (try simp only [Act.put, List.setIfInBounds_toArray, List.set_cons_zero, List.set_cons_succ])
            refine reg_take (i := 36) (oi := _) (v := ?_) rfl (by kernel_rfl) (by kernel_rfl) (by kernel_rfl) (fun _ _ _ h => h) (by rfl) ?_ (by assumption) ?_
            rotate_left
            · intro w hSw; (try dsimp only at hSw); replace x0 := bel_cell hSw x0; replace x1 := bel_cell hSw x1; replace x2 := bel_cell hSw x2; replace zq := Nat.lt_of_lt_of_le zq hSw.size; go_simp; try with_reducible rfl
            (try simp only [Act.put, List.setIfInBounds_toArray, List.set_cons_zero, List.set_cons_succ])
            refine reg_take (i := 37) (oi := _) (v := ?_) rfl (by kernel_rfl) (by kernel_rfl) (by kernel_rfl) (fun _ _ _ h => h) (by rfl) ?_ (by assumption) ?_
            rotate_left
            · intro w hSw; (try dsimp only at hSw); replace x0 := bel_cell hSw x0; replace x1 := bel_cell hSw x1; replace x2 := bel_cell hSw x2; replace zq := Nat.lt_of_lt_of_le zq hSw.size; go_simp; try with_reducible rfl
            (try simp only [Act.put, List.setIfInBounds_toArray, List.set_cons_zero, List.set_cons_succ])
            refine wpAnyH_ready (rs := [35]) (by kernel_rfl) (by simp) ?_
            refine reg_each (o := _) rfl (fun K hK => ?_) ?_
            · skip
              go_simp
              obtain ⟨A6, c6, e6⟩ := HRI.out.qs.slice
              refine (len_walk Q B R A6 L.length c6 _ (by have := (HRI.out.below hB2 hHeld).qs.qb; rw [e6] at this; exact this)).mono ?_
              rintro r w5 ⟨rfl, rfl⟩
              go_wp2_with (fail)
              refine hK.out _ _ ?_ (fun hHeld2 => ?_)
              · exact hHeld
              clear hK K hHeld
              have hHeld := hHeld2
              clear hHeld2
              (try simp only [Act.put, List.setIfInBounds_toArray, List.set_cons_zero, List.set_cons_succ])
              refine reg_take (i := 38) (oi := _) (v := ?_) rfl (by kernel_rfl) (by kernel_rfl) (by kernel_rfl) (fun _ _ _ h => h) (by rfl) ?_ (by assumption) ?_
              rotate_left
              · intro w hSw; (try dsimp only at hSw); replace x0 := bel_cell hSw x0; replace x1 := bel_cell hSw x1; replace x2 := bel_cell hSw x2; replace zq := Nat.lt_of_lt_of_le zq hSw.size; go_simp; try with_reducible rfl
              (try simp only [Act.put, List.setIfInBounds_toArray, List.set_cons_zero, List.set_cons_succ])
              refine reg_take (i := 39) (oi := _) (v := ?_) rfl (by kernel_rfl) (by kernel_rfl) (by kernel_rfl) (fun _ _ _ h => h) (by rfl) ?_ (by assumption) ?_
              rotate_left
              · intro w hSw; (try dsimp only at hSw); replace x0 := bel_cell hSw x0; replace x1 := bel_cell hSw x1; replace x2 := bel_cell hSw x2; replace zq := Nat.lt_of_lt_of_le zq hSw.size; go_simp; try with_reducible rfl
              (try simp only [Act.put, List.setIfInBounds_toArray, List.set_cons_zero, List.set_cons_succ])
              refine reg_take (i := 40) (oi := _) (v := ?_) rfl (by kernel_rfl) (by kernel_rfl) (by kernel_rfl) (fun _ _ _ h => h) (by rfl) ?_ (by assumption) ?_
              rotate_left
              · intro w hSw; (try dsimp only at hSw); replace x0 := bel_cell hSw x0; replace x1 := bel_cell hSw x1; replace x2 := bel_cell hSw x2; replace zq := Nat.lt_of_lt_of_le zq hSw.size; go_simp; try with_reducible rfl
              (try simp only [Act.put, List.setIfInBounds_toArray, List.set_cons_zero, List.set_cons_succ])
              refine reg_take (i := 41) (oi := _) (v := ?_) rfl (by kernel_rfl) (by kernel_rfl) (by kernel_rfl) (fun _ _ _ h => h) (by rfl) ?_ (by assumption) ?_
              rotate_left
              · intro w hSw; (try dsimp only at hSw); replace x0 := bel_cell hSw x0; replace x1 := bel_cell hSw x1; replace x2 := bel_cell hSw x2; replace zq := Nat.lt_of_lt_of_le zq hSw.size; go_simp; try with_reducible rfl
              (try simp only [Act.put, List.setIfInBounds_toArray, List.set_cons_zero, List.set_cons_succ])
              refine reg_take (i := 43) (oi := _) (v := ?_) rfl (by kernel_rfl) (by kernel_rfl) (by kernel_rfl) (fun _ _ _ h => h) (by rfl) ?_ (by assumption) ?_
              rotate_left
              · intro w hSw; (try dsimp only at hSw); replace x0 := bel_cell hSw x0; replace x1 := bel_cell hSw x1; replace x2 := bel_cell hSw x2; replace zq := Nat.lt_of_lt_of_le zq hSw.size; go_simp; try with_reducible rfl
              (try simp only [Act.put, List.setIfInBounds_toArray, List.set_cons_zero, List.set_cons_succ])
              refine wpAnyH_ready (rs := [42]) (by kernel_rfl) (by simp) ?_
              refine reg_each (o := _) rfl (fun K hK => ?_) ?_
              · skip
                go_simp
                refine (list_ok B Q B L.length (.slice A2 L.length cap2) R f m _ (HRI.out.below hB2 hHeld).qs HL.out).mono ?_
                rintro r w5 ⟨v5, L5, rfl, hp5, hm5, hl5, hown5, hb5⟩
                have e5 := asc_uniq hp5 HRI.out.ok.asc (fun y => (hm5 y).trans (HRI.out.mem y).symm)
                rw [e5] at hown5 hl5
                have RD5 := Lib.hid (RdE.of_owns hown5 hl5)
                clear hp5 hm5 hl5 hown5 e5
                go_wp2_with (fail)
                refine hK.out _ _ ?_ (fun hHeld2 => ?_)
                · exact below_trans hHeld hb5
                clear hK K hHeld
                have hHeld := hHeld2
                clear hHeld2
                (try simp only [Act.put, List.setIfInBounds_toArray, List.set_cons_zero, List.set_cons_succ])
                refine wpAnyH_ready (rs := [44]) (by kernel_rfl) (by simp) ?_
                refine reg_each (o := _) rfl (fun K hK => ?_) ?_
                · skip
                  go_simp
                  refine (same_walk _ _ L _ RD5.out (HRD.out.below hHeld) HL.out).mono ?_
                  rintro r w6 ⟨rfl, hb6⟩
                  go_wp2_with (fail)
                  refine hK.out _ _ ?_ (fun hHeld2 => ?_)
                  · exact below_trans hHeld hb6
                  clear hK K hHeld
                  have hHeld := hHeld2
                  clear hHeld2
                  (try simp only [Act.put, List.setIfInBounds_toArray, List.set_cons_zero, List.set_cons_succ])
                  refine reg_take (i := 45) (oi := _) (v := ?_) rfl (by kernel_rfl) (by kernel_rfl) (by kernel_rfl) (fun _ _ _ h => h) (by rfl) ?_ (by assumption) ?_
                  rotate_left
                  · intro w hSw; (try dsimp only at hSw); replace x0 := bel_cell hSw x0; replace x1 := bel_cell hSw x1; replace x2 := bel_cell hSw x2; replace zq := Nat.lt_of_lt_of_le zq hSw.size; go_simp; try with_reducible rfl
                  (try simp only [Act.put, List.setIfInBounds_toArray, List.set_cons_zero, List.set_cons_succ])
                  refine reg_take (i := 46) (oi := _) (v := ?_) rfl (by kernel_rfl) (by kernel_rfl) (by kernel_rfl) (fun _ _ _ h => h) (by rfl) ?_ (by assumption) ?_
                  rotate_left
                  · intro w hSw; (try dsimp only at hSw); replace x0 := bel_cell hSw x0; replace x1 := bel_cell hSw x1; replace x2 := bel_cell hSw x2; replace zq := Nat.lt_of_lt_of_le zq hSw.size; go_simp; try with_reducible rfl
                  (try simp only [Act.put, List.setIfInBounds_toArray, List.set_cons_zero, List.set_cons_succ])
                  refine wpAnyH_done (by kernel_rfl) ?_ _
                  refine NoPanic.normal ?_
                  have HF := Lib.hid ((HRI.out.below hB2 hHeld))
                  clear hHeld x0 x1 x2 zq
                  go_wp2_with (fail)
                  go_roundw
                  case rel => exact ⟨i + 1, _, L, f, m, by omega, by go_num, HF.out⟩
                  case measure => simp [intOf]; omega
                exact AllReadyH.nil
              exact AllReadyH.nil
            exact AllReadyH.nil
        · obtain ⟨n, hn⟩ : ∃ n, L.length = n + 1 := ⟨L.length - 1, by omega⟩
          clear hL0
          by_cases hfound : (m z u).isSome = true
          · as_aux_lemma =>
              have hBc : B ≤ wc.heap.size := hri.size (by omega)
              have hL20 := hri.le
              have FS := Lib.hid (first_ok B Q B n hv R f m wc (by rw [← hn]; exact hri.qs))
              have h00 := hri.first (by omega)
              generalize hE : f 0 = E at *
              have hLp := Lib.hid (show (0 : Int) < (L.length : Int) by omega)
              have hLe := Lib.hid (show L.length ≤ 65536 by omega)
              clear hn
              unfold evV at FS
              have HRI := Lib.hid hri
              have HPO := Lib.hid hpo
              clear hri hpo 
              go_wp2_with (fail)
              refine FS.out.mono ?_
              rintro r w1 ⟨rfl, b1⟩
              have ri1 := HRI.out.below hBc b1
              have po1 := HPO.out.below b1
              have hB1 : B ≤ w1.heap.size := Nat.le_trans hBc b1.size
              clear FS HRI HPO b1
              go_upto_region 28 with (fail)
              have hq := Blk.new w1 30 (evV E)
              have bq := below_al (Below.refl w1.heap.size w1) (.cells (evV E) 30)
              have ri2 := ri1.below hB1 bq
              have po2 := po1.below bq
              clear ri1 po1 bq
              unfold evV at hq ri2 po2
              generalize w1.alloc (Obj.cells #[Value.int IntKind.i64 E.t, Value.int IntKind.i64 E.k, Value.int IntKind.i64 E.d] 30) = W2 at *
              generalize w1.heap.size = q at *
              have hB2 : B ≤ W2.heap.size := ri2.size (by omega)
              have HRI := Lib.hid ri2
              have HPO := Lib.hid po2
              have HQ := Lib.hid hq
              have FD := Lib.hid (find_ok B Q B L.length hv R f m z u W2 ri2.qs)
              have RF := Lib.hid (reffind_walk _ L z u W2 ri2.rd (by have := ri2.le; omega))
              have hbk := po2.blk
              have P1 : W2.cell? ⟨p, 1, none⟩ = some (.int .i64 y) := by rw [hbk.cell]; rfl
              have P2 : W2.cell? ⟨p, 2, none⟩ = some (.int .i64 z) := by rw [hbk.cell]; rfl
              have P3 : W2.cell? ⟨p, 3, none⟩ = some (.int .i64 u) := by rw [hbk.cell]; rfl
              have zp := hbk.lt
              clear hbk
              rcases ri2.key z u with ⟨hm, hno⟩ | ⟨ii, jj, hm, hjj, hfj, hkd, hin⟩
              · exact absurd hfound (by simp [hm])
              rw [hm] at FD
              simp only [Option.isSome] at FD
              have HK := Lib.hid (And.intro hin hkd)
              generalize hF : f ii = F at *
              clear hm hfj hjj hin hkd hfound
              clear ri2 po2 hq
              go_wp2_with (fail)
              refine FD.out.mono ?_
              rintro r w3 ⟨rfl, rfl⟩
              clear FD
              go_wp2_with (fail)
              refine RF.out.mono ?_
              rintro r w4 ⟨rfl, rr, rfl, hfd⟩
              clear RF P1 P2 P3 zp
              obtain ⟨jx, hjx, rfl, hkx⟩ : ∃ jx : Nat, jx < L.length ∧ rr = jx ∧ KD (L.getD jx ⟨0, 0, 0⟩) z u := by
                rcases hfd with ⟨_, hno⟩ | ⟨jx, hjx, e, hkx⟩
                · exact absurd HK.out.2 (hno _ HK.out.1)
                · exact ⟨jx, hjx, e, hkx⟩
              have hjF : L.getD jx ⟨0, 0, 0⟩ = F := HRI.out.ok.uniq _ (getD_mem hjx) _ HK.out.1 (hkx.1.trans HK.out.2.1.symm) (hkx.2.trans HK.out.2.2.symm)
              have jx0 : (0 : Int) ≤ (jx : Int) := by omega
              have jx1 : (jx : Int) < (L.length : Int) := by omega
              have HJF := Lib.hid hjF
              have HJX := Lib.hid hjx
              clear hfd hkx HK hjF hjx
              obtain ⟨W3, hW3⟩ : ∃ Z, Z = w4 := ⟨_, rfl⟩
              subst hW3
              go_upto_region 30 with (fail)
              have x0 : W3.cell? ⟨q, 0, none⟩ = some (.int .i64 E.t) := by rw [HQ.out.cell]; rfl
              have x1 : W3.cell? ⟨q, 1, none⟩ = some (.int .i64 E.k) := by rw [HQ.out.cell]; rfl
              have x2 : W3.cell? ⟨q, 2, none⟩ = some (.int .i64 E.d) := by rw [HQ.out.cell]; rfl
              have zq := HQ.out.lt
              have hrd := HRI.out.rd
              have HRD := Lib.hid hrd
              obtain ⟨A3, cap3, e3, hx3, hx4, hx5, hh3⟩ := hrd.form
              clear hx3 hx4 hx5
              obtain ⟨g3, o3, rfl, zg, c0, c1, c2⟩ := hh3 0 (by have := hLp.out; omega)
              simp only [Value.slice.injEq] at e3
              obtain ⟨rfl, _, rfl⟩ := e3
              rw [h00] at c0 c1 c2
              simp only [Nat.zero_mul, Nat.add_zero] at c0 c1 c2
              have e1 : (E.t == E.t) = true := by simp
              have e2 : (E.k == E.k) = true := by simp
              have e4 : (E.d == E.d) = true := by simp
              have hLp1 := hLp.out
              have hi0 : 0 < L.length := by omega
              have hLb : decide (0 < L.length) = true := decide_eq_true hi0
              have hLb2 : decide ((0 : Int) < (L.length : Int)) = true := decide_eq_true hLp1
              obtain ⟨g4, o4, e5, _, d0, _, _⟩ := hh3 jx HJX.out
              simp only [Option.some.injEq, Addr.mk.injEq, and_true] at e5
              obtain ⟨rfl, rfl⟩ := e5
              rw [HJF.out] at d0
              have e6 : (F.t == F.t) = true := by simp
              clear hh3
              clear hrd
              have HL := Lib.hid (show L.length ≤ 65536 by have := HRI.out.le; omega)
              refine wp_region_noPanic ?_
              refine wp_region_held_drew (S := (fun w' => Below W3.heap.size W3 w')) (by kernel_rfl) ?_ (fun hHeld => ?_)
              · exact below_drewN (Below.refl _ _) 1
              refine reg_take (i := 0) (oi := _) (v := ?_) rfl (by kernel_rfl) (by kernel_rfl) (by kernel_rfl) (fun _ _ _ h => h) (by rfl) ?_ (by assumption) ?_
              rotate_left
              · intro w hSw; (try dsimp only at hSw); replace x0 := bel_cell hSw x0; replace x1 := bel_cell hSw x1; replace x2 := bel_cell hSw x2; replace c0 := bel_cell hSw c0; replace c1 := bel_cell hSw c1; replace c2 := bel_cell hSw c2; replace d0 := bel_cell hSw d0; replace zq := Nat.lt_of_lt_of_le zq hSw.size; replace zg := Nat.lt_of_lt_of_le zg hSw.size; go_simp; try with_reducible rfl
              (try simp only [Act.put, List.setIfInBounds_toArray, List.set_cons_zero, List.set_cons_succ])
              refine reg_take (i := 1) (oi := _) (v := ?_) rfl (by kernel_rfl) (by kernel_rfl) (by kernel_rfl) (fun _ _ _ h => h) (by rfl) ?_ (by assumption) ?_
              rotate_left
              · intro w hSw; (try dsimp only at hSw); replace x0 := bel_cell hSw x0; replace x1 := bel_cell hSw x1; replace x2 := bel_cell hSw x2; replace c0 := bel_cell hSw c0; replace c1 := bel_cell hSw c1; replace c2 := bel_cell hSw c2; replace d0 := bel_cell hSw d0; replace zq := Nat.lt_of_lt_of_le zq hSw.size; replace zg := Nat.lt_of_lt_of_le zg hSw.size; go_simp; try with_reducible rfl
              (try simp only [Act.put, List.setIfInBounds_toArray, List.set_cons_zero, List.set_cons_succ])
              refine reg_take (i := 2) (oi := _) (v := ?_) rfl (by kernel_rfl) (by kernel_rfl) (by kernel_rfl) (fun _ _ _ h => h) (by rfl) ?_ (by assumption) ?_
              rotate_left
              · intro w hSw; (try dsimp only at hSw); replace x0 := bel_cell hSw x0; replace x1 := bel_cell hSw x1; replace x2 := bel_cell hSw x2; replace c0 := bel_cell hSw c0; replace c1 := bel_cell hSw c1; replace c2 := bel_cell hSw c2; replace d0 := bel_cell hSw d0; replace zq := Nat.lt_of_lt_of_le zq hSw.size; replace zg := Nat.lt_of_lt_of_le zg hSw.size; go_simp; try with_reducible rfl
              (try simp only [Act.put, List.setIfInBounds_toArray, List.set_cons_zero, List.set_cons_succ])
              refine reg_take (i := 3) (oi := _) (v := ?_) rfl (by kernel_rfl) (by kernel_rfl) (by kernel_rfl) (fun _ _ _ h => h) (by rfl) ?_ (by assumption) ?_
              rotate_left
              · intro w hSw; (try dsimp only at hSw); replace x0 := bel_cell hSw x0; replace x1 := bel_cell hSw x1; replace x2 := bel_cell hSw x2; replace c0 := bel_cell hSw c0; replace c1 := bel_cell hSw c1; replace c2 := bel_cell hSw c2; replace d0 := bel_cell hSw d0; replace zq := Nat.lt_of_lt_of_le zq hSw.size; replace zg := Nat.lt_of_lt_of_le zg hSw.size; go_simp; try with_reducible rfl
              (try simp only [Act.put, List.setIfInBounds_toArray, List.set_cons_zero, List.set_cons_succ])
              refine reg_take (i := 4) (oi := _) (v := ?_) rfl (by kernel_rfl) (by kernel_rfl) (by kernel_rfl) (fun _ _ _ h => h) (by rfl) ?_ (by assumption) ?_
              rotate_left
              · intro w hSw; (try dsimp only at hSw); replace x0 := bel_cell hSw x0; replace x1 := bel_cell hSw x1; replace x2 := bel_cell hSw x2; replace c0 := bel_cell hSw c0; replace c1 := bel_cell hSw c1; replace c2 := bel_cell hSw c2; replace d0 := bel_cell hSw d0; replace zq := Nat.lt_of_lt_of_le zq hSw.size; replace zg := Nat.lt_of_lt_of_le zg hSw.size; go_simp; try with_reducible rfl
              (try simp only [Act.put, List.setIfInBounds_toArray, List.set_cons_zero, List.set_cons_succ])
              refine reg_take (i := 5) (oi := _) (v := ?_) rfl (by kernel_rfl) (by kernel_rfl) (by kernel_rfl) (fun _ _ _ h => h) (by rfl) ?_ (by assumption) ?_
              rotate_left
              · intro w hSw; (try dsimp only at hSw); replace x0 := bel_cell hSw x0; replace x1 := bel_cell hSw x1; replace x2 := bel_cell hSw x2; replace c0 := bel_cell hSw c0; replace c1 := bel_cell hSw c1; replace c2 := bel_cell hSw c2; replace d0 := bel_cell hSw d0; replace zq := Nat.lt_of_lt_of_le zq hSw.size; replace zg := Nat.lt_of_lt_of_le zg hSw.size; go_simp; try with_reducible rfl
              (try simp only [Act.put, List.setIfInBounds_toArray, List.set_cons_zero, List.set_cons_succ])
              refine reg_take (i := 6) (oi := _) (v := ?_) rfl (by kernel_rfl) (by kernel_rfl) (by kernel_rfl) (fun _ _ _ h => h) (by rfl) ?_ (by assumption) ?_
              rotate_left
              · intro w hSw; (try dsimp only at hSw); replace x0 := bel_cell hSw x0; replace x1 := bel_cell hSw x1; replace x2 := bel_cell hSw x2; replace c0 := bel_cell hSw c0; replace c1 := bel_cell hSw c1; replace c2 := bel_cell hSw c2; replace d0 := bel_cell hSw d0; replace zq := Nat.lt_of_lt_of_le zq hSw.size; replace zg := Nat.lt_of_lt_of_le zg hSw.size; go_simp; try with_reducible rfl
              (try simp only [Act.put, List.setIfInBounds_toArray, List.set_cons_zero, List.set_cons_succ])
              refine reg_take (i := 7) (oi := _) (v := ?_) rfl (by kernel_rfl) (by kernel_rfl) (by kernel_rfl) (fun _ _ _ h => h) (by rfl) ?_ (by assumption) ?_
              rotate_left
              · intro w hSw; (try dsimp only at hSw); replace x0 := bel_cell hSw x0; replace x1 := bel_cell hSw x1; replace x2 := bel_cell hSw x2; replace c0 := bel_cell hSw c0; replace c1 := bel_cell hSw c1; replace c2 := bel_cell hSw c2; replace d0 := bel_cell hSw d0; replace zq := Nat.lt_of_lt_of_le zq hSw.size; replace zg := Nat.lt_of_lt_of_le zg hSw.size; go_simp; try with_reducible rfl
              (try simp only [Act.put, List.setIfInBounds_toArray, List.set_cons_zero, List.set_cons_succ])
              refine reg_take (i := 8) (oi := _) (v := ?_) rfl (by kernel_rfl) (by kernel_rfl) (by kernel_rfl) (fun _ _ _ h => h) (by rfl) ?_ (by assumption) ?_
              rotate_left
              · intro w hSw; (try dsimp only at hSw); replace x0 := bel_cell hSw x0; replace x1 := bel_cell hSw x1; replace x2 := bel_cell hSw x2; replace c0 := bel_cell hSw c0; replace c1 := bel_cell hSw c1; replace c2 := bel_cell hSw c2; replace d0 := bel_cell hSw d0; replace zq := Nat.lt_of_lt_of_le zq hSw.size; replace zg := Nat.lt_of_lt_of_le zg hSw.size; go_simp; try with_reducible rfl
              (try simp only [Act.put, List.setIfInBounds_toArray, List.set_cons_zero, List.set_cons_succ])
              refine reg_take (i := 9) (oi := _) (v := ?_) rfl (by kernel_rfl) (by kernel_rfl) (by kernel_rfl) (fun _ _ _ h => h) (by rfl) ?_ (by assumption) ?_
              rotate_left
              · intro w hSw; (try dsimp only at hSw); replace x0 := bel_cell hSw x0; replace x1 := bel_cell hSw x1; replace x2 := bel_cell hSw x2; replace c0 := bel_cell hSw c0; replace c1 := bel_cell hSw c1; replace c2 := bel_cell hSw c2; replace d0 := bel_cell hSw d0; replace zq := Nat.lt_of_lt_of_le zq hSw.size; replace zg := Nat.lt_of_lt_of_le zg hSw.size; go_simp; try with_reducible rfl
              (try simp only [Act.put, List.setIfInBounds_toArray, List.set_cons_zero, List.set_cons_succ])
              refine reg_take (i := 10) (oi := _) (v := ?_) rfl (by kernel_rfl) (by kernel_rfl) (by kernel_rfl) (fun _ _ _ h => h) (by rfl) ?_ (by assumption) ?_
              rotate_left
              · intro w hSw; (try dsimp only at hSw); replace x0 := bel_cell hSw x0; replace x1 := bel_cell hSw x1; replace x2 := bel_cell hSw x2; replace c0 := bel_cell hSw c0; replace c1 := bel_cell hSw c1; replace c2 := bel_cell hSw c2; replace d0 := bel_cell hSw d0; replace zq := Nat.lt_of_lt_of_le zq hSw.size; replace zg := Nat.lt_of_lt_of_le zg hSw.size; go_simp; try with_reducible rfl
              (try simp only [Act.put, List.setIfInBounds_toArray, List.set_cons_zero, List.set_cons_succ])
              refine reg_take (i := 11) (oi := _) (v := ?_) rfl (by kernel_rfl) (by kernel_rfl) (by kernel_rfl) (fun _ _ _ h => h) (by rfl) ?_ (by assumption) ?_
              rotate_left
              · intro w hSw; (try dsimp only at hSw); replace x0 := bel_cell hSw x0; replace x1 := bel_cell hSw x1; replace x2 := bel_cell hSw x2; replace c0 := bel_cell hSw c0; replace c1 := bel_cell hSw c1; replace c2 := bel_cell hSw c2; replace d0 := bel_cell hSw d0; replace zq := Nat.lt_of_lt_of_le zq hSw.size; replace zg := Nat.lt_of_lt_of_le zg hSw.size; go_simp; try with_reducible rfl
              (try simp only [Act.put, List.setIfInBounds_toArray, List.set_cons_zero, List.set_cons_succ])
              refine reg_take (i := 12) (oi := _) (v := ?_) rfl (by kernel_rfl) (by kernel_rfl) (by kernel_rfl) (fun _ _ _ h => h) (by rfl) ?_ (by assumption) ?_
              rotate_left
              · intro w hSw; (try dsimp only at hSw); replace x0 := bel_cell hSw x0; replace x1 := bel_cell hSw x1; replace x2 := bel_cell hSw x2; replace c0 := bel_cell hSw c0; replace c1 := bel_cell hSw c1; replace c2 := bel_cell hSw c2; replace d0 := bel_cell hSw d0; replace zq := Nat.lt_of_lt_of_le zq hSw.size; replace zg := Nat.lt_of_lt_of_le zg hSw.size; go_simp; try with_reducible rfl
              (try simp only [Act.put, List.setIfInBounds_toArray, List.set_cons_zero, List.set_cons_succ])
              refine reg_take (i := 13) (oi := _) (v := ?_) rfl (by kernel_rfl) (by kernel_rfl) (by kernel_rfl) (fun _ _ _ h => h) (by rfl) ?_ (by assumption) ?_
              rotate_left
              · intro w hSw; (try dsimp only at hSw); replace x0 := bel_cell hSw x0; replace x1 := bel_cell hSw x1; replace x2 := bel_cell hSw x2; replace c0 := bel_cell hSw c0; replace c1 := bel_cell hSw c1; replace c2 := bel_cell hSw c2; replace d0 := bel_cell hSw d0; replace zq := Nat.lt_of_lt_of_le zq hSw.size; replace zg := Nat.lt_of_lt_of_le zg hSw.size; go_simp; try with_reducible rfl
              (try simp only [Act.put, List.setIfInBounds_toArray, List.set_cons_zero, List.set_cons_succ])
              refine reg_take (i := 14) (oi := _) (v := ?_) rfl (by kernel_rfl) (by kernel_rfl) (by kernel_rfl) (fun _ _ _ h => h) (by rfl) ?_ (by assumption) ?_
              rotate_left
              · intro w hSw; (try dsimp only at hSw); replace x0 := bel_cell hSw x0; replace x1 := bel_cell hSw x1; replace x2 := bel_cell hSw x2; replace c0 := bel_cell hSw c0; replace c1 := bel_cell hSw c1; replace c2 := bel_cell hSw c2; replace d0 := bel_cell hSw d0; replace zq := Nat.lt_of_lt_of_le zq hSw.size; replace zg := Nat.lt_of_lt_of_le zg hSw.size; go_simp; try with_reducible rfl
              (try simp only [Act.put, List.setIfInBounds_toArray, List.set_cons_zero, List.set_cons_succ])
              refine reg_take (i := 15) (oi := _) (v := ?_) rfl (by kernel_rfl) (by kernel_rfl) (by kernel_rfl) (fun _ _ _ h => h) (by rfl) ?_ (by assumption) ?_
              rotate_left
              · intro w hSw; (try dsimp only at hSw); replace x0 := bel_cell hSw x0; replace x1 := bel_cell hSw x1; replace x2 := bel_cell hSw x2; replace c0 := bel_cell hSw c0; replace c1 := bel_cell hSw c1; replace c2 := bel_cell hSw c2; replace d0 := bel_cell hSw d0; replace zq := Nat.lt_of_lt_of_le zq hSw.size; replace zg := Nat.lt_of_lt_of_le zg hSw.size; go_simp; try with_reducible rfl
              (try simp only [Act.put, List.setIfInBounds_toArray, List.set_cons_zero, List.set_cons_succ])
              refine reg_take (i := 16) (oi := _) (v := ?_) rfl (by kernel_rfl) (by kernel_rfl) (by kernel_rfl) (fun _ _ _ h => h) (by rfl) ?_ (by assumption) ?_
              rotate_left
              · intro w hSw; (try dsimp only at hSw); replace x0 := bel_cell hSw x0; replace x1 := bel_cell hSw x1; replace x2 := bel_cell hSw x2; replace c0 := bel_cell hSw c0; replace c1 := bel_cell hSw c1; replace c2 := bel_cell hSw c2; replace d0 := bel_cell hSw d0; replace zq := Nat.lt_of_lt_of_le zq hSw.size; replace zg := Nat.lt_of_lt_of_le zg hSw.size; go_simp; try with_reducible rfl
              (try simp only [Act.put, List.setIfInBounds_toArray, List.set_cons_zero, List.set_cons_succ])
              refine reg_take (i := 17) (oi := _) (v := ?_) rfl (by kernel_rfl) (by kernel_rfl) (by kernel_rfl) (fun _ _ _ h => h) (by rfl) ?_ (by assumption) ?_
              rotate_left
              · intro w hSw; (try dsimp only at hSw); replace x0 := bel_cell hSw x0; replace x1 := bel_cell hSw x1; replace x2 := bel_cell hSw x2; replace c0 := bel_cell hSw c0; replace c1 := bel_cell hSw c1; replace c2 := bel_cell hSw c2; replace d0 := bel_cell hSw d0; replace zq := Nat.lt_of_lt_of_le zq hSw.size; replace zg := Nat.lt_of_lt_of_le zg hSw.size; go_simp; try with_reducible rfl
              (try simp only [Act.put, List.setIfInBounds_toArray, List.set_cons_zero, List.set_cons_succ])
              refine reg_take (i := 18) (oi := _) (v := ?_) rfl (by kernel_rfl) (by kernel_rfl) (by kernel_rfl) (fun _ _ _ h => h) (by rfl) ?_ (by assumption) ?_
              rotate_left
              · intro w hSw; (try dsimp only at hSw); replace x0 := bel_cell hSw x0; replace x1 := bel_cell hSw x1; replace x2 := bel_cell hSw x2; replace c0 := bel_cell hSw c0; replace c1 := bel_cell hSw c1; replace c2 := bel_cell hSw c2; replace d0 := bel_cell hSw d0; replace zq := Nat.lt_of_lt_of_le zq hSw.size; replace zg := Nat.lt_of_lt_of_le zg hSw.size; go_simp; try with_reducible rfl
              (try simp only [Act.put, List.setIfInBounds_toArray, List.set_cons_zero, List.set_cons_succ])
              refine reg_take (i := 19) (oi := _) (v := ?_) rfl (by kernel_rfl) (by kernel_rfl) (by kernel_rfl) (fun _ _ _ h => h) (by rfl) ?_ (by assumption) ?_
              rotate_left
              · intro w hSw; (try dsimp only at hSw); replace x0 := bel_cell hSw x0; replace x1 := bel_cell hSw x1; replace x2 := bel_cell hSw x2; replace c0 := bel_cell hSw c0; replace c1 := bel_cell hSw c1; replace c2 := bel_cell hSw c2; replace d0 := bel_cell hSw d0; replace zq := Nat.lt_of_lt_of_le zq hSw.size; replace zg := Nat.lt_of_lt_of_le zg hSw.size; go_simp; try with_reducible rfl
              (try simp only [Act.put, List.setIfInBounds_toArray, List.set_cons_zero, List.set_cons_succ])
              refine reg_take (i := 20) (oi := _) (v := ?_) rfl (by kernel_rfl) (by kernel_rfl) (by kernel_rfl) (fun _ _ _ h => h) (by rfl) ?_ (by assumption) ?_
              rotate_left
              · intro w hSw; (try dsimp only at hSw); replace x0 := bel_cell hSw x0; replace x1 := bel_cell hSw x1; replace x2 := bel_cell hSw x2; replace c0 := bel_cell hSw c0; replace c1 := bel_cell hSw c1; replace c2 := bel_cell hSw c2; replace d0 := bel_cell hSw d0; replace zq := Nat.lt_of_lt_of_le zq hSw.size; replace zg := Nat.lt_of_lt_of_le zg hSw.size; go_simp; try with_reducible rfl
              (try simp only [Act.put, List.setIfInBounds_toArray, List.set_cons_zero, List.set_cons_succ])
              refine reg_take (i := 21) (oi := _) (v := ?_) rfl (by kernel_rfl) (by kernel_rfl) (by kernel_rfl) (fun _ _ _ h => h) (by rfl) ?_ (by assumption) ?_
              rotate_left
              · intro w hSw; (try dsimp only at hSw); replace x0 := bel_cell hSw x0; replace x1 := bel_cell hSw x1; replace x2 := bel_cell hSw x2; replace c0 := bel_cell hSw c0; replace c1 := bel_cell hSw c1; replace c2 := bel_cell hSw c2; replace d0 := bel_cell hSw d0; replace zq := Nat.lt_of_lt_of_le zq hSw.size; replace zg := Nat.lt_of_lt_of_le zg hSw.size; go_simp; try with_reducible rfl
              (try simp only [Act.put, List.setIfInBounds_toArray, List.set_cons_zero, List.set_cons_succ])
              refine reg_take (i := 22) (oi := _) (v := ?_) rfl (by kernel_rfl) (by kernel_rfl) (by kernel_rfl) (fun _ _ _ h => h) (by rfl) ?_ (by assumption) ?_
              rotate_left
              · intro w hSw; (try dsimp only at hSw); replace x0 := bel_cell hSw x0; replace x1 := bel_cell hSw x1; replace x2 := bel_cell hSw x2; replace c0 := bel_cell hSw c0; replace c1 := bel_cell hSw c1; replace c2 := bel_cell hSw c2; replace d0 := bel_cell hSw d0; replace zq := Nat.lt_of_lt_of_le zq hSw.size; replace zg := Nat.lt_of_lt_of_le zg hSw.size; go_simp; try with_reducible rfl
              (try simp only [Act.put, List.setIfInBounds_toArray, List.set_cons_zero, List.set_cons_succ])
              refine reg_take (i := 23) (oi := _) (v := ?_) rfl (by kernel_rfl) (by kernel_rfl) (by kernel_rfl) (fun _ _ _ h => h) (by rfl) ?_ (by assumption) ?_
              rotate_left
              · intro w hSw; (try dsimp only at hSw); replace x0 := bel_cell hSw x0; replace x1 := bel_cell hSw x1; replace x2 := bel_cell hSw x2; replace c0 := bel_cell hSw c0; replace c1 := bel_cell hSw c1; replace c2 := bel_cell hSw c2; replace d0 := bel_cell hSw d0; replace zq := Nat.lt_of_lt_of_le zq hSw.size; replace zg := Nat.lt_of_lt_of_le zg hSw.size; go_simp; try with_reducible rfl
              (try simp only [Act.put, List.setIfInBounds_toArray, List.set_cons_zero, List.set_cons_succ])
              refine reg_take (i := 24) (oi := _) (v := ?_) rfl (by kernel_rfl) (by kernel_rfl) (by kernel_rfl) (fun _ _ _ h => h) (by rfl) ?_ (by assumption) ?_
              rotate_left
              · intro w hSw; (try dsimp only at hSw); replace x0 := bel_cell hSw x0; replace x1 := bel_cell hSw x1; replace x2 := bel_cell hSw x2; replace c0 := bel_cell hSw c0; replace c1 := bel_cell hSw c1; replace c2 := bel_cell hSw c2; replace d0 := bel_cell hSw d0; replace zq := Nat.lt_of_lt_of_le zq hSw.size; replace zg := Nat.lt_of_lt_of_le zg hSw.size; go_simp; try with_reducible rfl
              (try simp only [Act.put, List.setIfInBounds_toArray, List.set_cons_zero, List.set_cons_succ])
              refine reg_take (i := 25) (oi := _) (v := ?_) rfl (by kernel_rfl) (by kernel_rfl) (by kernel_rfl) (fun _ _ _ h => h) (by rfl) ?_ (by assumption) ?_
              rotate_left
              · intro w hSw; (try dsimp only at hSw); replace x0 := bel_cell hSw x0; replace x1 := bel_cell hSw x1; replace x2 := bel_cell hSw x2; replace c0 := bel_cell hSw c0; replace c1 := bel_cell hSw c1; replace c2 := bel_cell hSw c2; replace d0 := bel_cell hSw d0; replace zq := Nat.lt_of_lt_of_le zq hSw.size; replace zg := Nat.lt_of_lt_of_le zg hSw.size; go_simp; try with_reducible rfl
              (try simp only [Act.put, List.setIfInBounds_toArray, List.set_cons_zero, List.set_cons_succ])
              refine reg_take (i := 26) (oi := _) (v := ?_) rfl (by kernel_rfl) (by kernel_rfl) (by kernel_rfl) (fun _ _ _ h => h) (by rfl) ?_ (by assumption) ?_
              rotate_left
              · intro w hSw; (try dsimp only at hSw); replace x0 := bel_cell hSw x0; replace x1 := bel_cell hSw x1; replace x2 := bel_cell hSw x2; replace c0 := bel_cell hSw c0; replace c1 := bel_cell hSw c1; replace c2 := bel_cell hSw c2; replace d0 := bel_cell hSw d0; replace zq := Nat.lt_of_lt_of_le zq hSw.size; replace zg := Nat.lt_of_lt_of_le zg hSw.size; go_simp; try with_reducible rfl
              (try simp only [Act.put, List.setIfInBounds_toArray, List.set_cons_zero, List.set_cons_succ])
              refine reg_take (i := 27) (oi := _) (v := ?_) rfl (by kernel_rfl) (by kernel_rfl) (by kernel_rfl) (fun _ _ _ h => h) (by rfl) ?_ (by assumption) ?_
              rotate_left
              · intro w hSw; (try dsimp only at hSw); replace x0 := bel_cell hSw x0; replace x1 := bel_cell hSw x1; replace x2 := bel_cell hSw x2; replace c0 := bel_cell hSw c0; replace c1 := bel_cell hSw c1; replace c2 := bel_cell hSw c2; replace d0 := bel_cell hSw d0; replace zq := Nat.lt_of_lt_of_le zq hSw.size; replace zg := Nat.lt_of_lt_of_le zg hSw.size; go_simp; try with_reducible rfl
              (try simp only [Act.put, List.setIfInBounds_toArray, List.set_cons_zero, List.set_cons_succ])
              refine reg_take (i := 28) (oi := _) (v := ?_) rfl (by kernel_rfl) (by kernel_rfl) (by kernel_rfl) (fun _ _ _ h => h) (by rfl) ?_ (by assumption) ?_
              rotate_left
              · intro w hSw; (try dsimp only at hSw); replace x0 := bel_cell hSw x0; replace x1 := bel_cell hSw x1; replace x2 := bel_cell hSw x2; replace c0 := bel_cell hSw c0; replace c1 := bel_cell hSw c1; replace c2 := bel_cell hSw c2; replace d0 := bel_cell hSw d0; replace zq := Nat.lt_of_lt_of_le zq hSw.size; replace zg := Nat.lt_of_lt_of_le zg hSw.size; go_simp; try with_reducible rfl
              (try simp only [Act.put, List.setIfInBounds_toArray, List.set_cons_zero, List.set_cons_succ])
              refine reg_take (i := 29) (oi := _) (v := ?_) rfl (by kernel_rfl) (by kernel_rfl) (by kernel_rfl) (fun _ _ _ h => h) (by rfl) ?_ (by assumption) ?_
              rotate_left
              · intro w hSw; (try dsimp only at hSw); replace x0 := bel_cell hSw x0; replace x1 := bel_cell hSw x1; replace x2 := bel_cell hSw x2; replace c0 := bel_cell hSw c0; replace c1 := bel_cell hSw c1; replace c2 := bel_cell hSw c2; replace d0 := bel_cell hSw d0; replace zq := Nat.lt_of_lt_of_le zq hSw.size; replace zg := Nat.lt_of_lt_of_le zg hSw.size; go_simp; try with_reducible rfl
              (try simp only [Act.put, List.setIfInBounds_toArray, List.set_cons_zero, List.set_cons_succ])
              refine reg_take (i := 30) (oi := _) (v := ?_) rfl (by kernel_rfl) (by kernel_rfl) (by kernel_rfl) (fun _ _ _ h => h) (by rfl) ?_ (by assumption) ?_
              rotate_left
              · intro w hSw; (try dsimp only at hSw); replace x0 := bel_cell hSw x0; replace x1 := bel_cell hSw x1; replace x2 := bel_cell hSw x2; replace c0 := bel_cell hSw c0; replace c1 := bel_cell hSw c1; replace c2 := bel_cell hSw c2; replace d0 := bel_cell hSw d0; replace zq := Nat.lt_of_lt_of_le zq hSw.size; replace zg := Nat.lt_of_lt_of_le zg hSw.size; go_simp; try with_reducible rfl
              (try simp only [Act.put, List.setIfInBounds_toArray, List.set_cons_zero, List.set_cons_succ])
              refine reg_take (i := 31) (oi := _) (v := ?_) rfl (by kernel_rfl) (by kernel_rfl) (by kernel_rfl) (fun _ _ _ h => h) (by rfl) ?_ (by assumption) ?_
              rotate_left
              · intro w hSw; (try dsimp only at hSw); replace x0 := bel_cell hSw x0; replace x1 := bel_cell hSw x1; replace x2 := bel_cell hSw x2; replace c0 := bel_cell hSw c0; replace c1 := bel_cell hSw c1; replace c2 := bel_cell hSw c2; replace d0 := bel_cell hSw d0; replace zq := Nat.lt_of_lt_of_le zq hSw.size; replace zg := Nat.lt_of_lt_of_le zg hSw.size; go_simp; try with_reducible rfl
              (try simp only [Act.put, List.setIfInBounds_toArray, List.set_cons_zero, List.set_cons_succ])
              refine reg_take (i := 32) (oi := _) (v := ?_) rfl (by kernel_rfl) (by kernel_rfl) (by kernel_rfl) (fun _ _ _ h => h) (by rfl) ?_ (by assumption) ?_
              rotate_left
              · intro w hSw; (try dsimp only at hSw); replace x0 := bel_cell hSw x0; replace x1 := bel_cell hSw x1; replace x2 := bel_cell hSw x2; replace c0 := bel_cell hSw c0; replace c1 := bel_cell hSw c1; replace c2 := bel_cell hSw c2; replace d0 := bel_cell hSw d0; replace zq := Nat.lt_of_lt_of_le zq hSw.size; replace zg := Nat.lt_of_lt_of_le zg hSw.size; go_simp; try with_reducible rfl
              (try simp only [Act.put, List.setIfInBounds_toArray, List.set_cons_zero, List.set_cons_succ])
              refine reg_take (i := 33) (oi := _) (v := ?_) rfl (by kernel_rfl) (by kernel_rfl) (by kernel_rfl) (fun _ _ _ h => h) (by rfl) ?_ (by assumption) ?_
              rotate_left
              · intro w hSw; (try dsimp only at hSw); replace x0 := bel_cell hSw x0; replace x1 := bel_cell hSw x1; replace x2 := bel_cell hSw x2; replace c0 := bel_cell hSw c0; replace c1 := bel_cell hSw c1; replace c2 := bel_cell hSw c2; replace d0 := bel_cell hSw d0; replace zq := Nat.lt_of_lt_of_le zq hSw.size; replace zg := Nat.lt_of_lt_of_le zg hSw.size; go_simp; try with_reducible rfl
              (try simp only [Act.put, List.setIfInBounds_toArray, List.set_cons_zero, List.set_cons_succ])
              refine reg_take (i := 34) (oi := _) (v := ?_) rfl (by kernel_rfl) (by kernel_rfl) (by kernel_rfl) (fun _ _ _ h => h) (by rfl) ?_ (by assumption) ?_
              rotate_left
              · intro w hSw; (try dsimp only at hSw); replace x0 := bel_cell hSw x0; replace x1 := bel_cell hSw x1; replace x2 := bel_cell hSw x2; replace c0 := bel_cell hSw c0; replace c1 := bel_cell hSw c1; replace c2 := bel_cell hSw c2; replace d0 := bel_cell hSw d0; replace zq := Nat.lt_of_lt_of_le zq hSw.size; replace zg := Nat.lt_of_lt_of_le zg hSw.size; go_simp; try with_reducible rfl
              (try simp only [Act.put, List.setIfInBounds_toArray, List.set_cons_zero, List.set_cons_succ])
              refine reg_take (i := 36) (oi := _) (v := ?_) rfl (by kernel_rfl) (by kernel_rfl) (by kernel_rfl) (fun _ _ _ h => h) (by rfl) ?_ (by assumption) ?_
              rotate_left
              · intro w hSw; (try dsimp only at hSw); replace x0 := bel_cell hSw x0; replace x1 := bel_cell hSw x1; replace x2 := bel_cell hSw x2; replace c0 := bel_cell hSw c0; replace c1 := bel_cell hSw c1; replace c2 := bel_cell hSw c2; replace d0 := bel_cell hSw d0; replace zq := Nat.lt_of_lt_of_le zq hSw.size; replace zg := Nat.lt_of_lt_of_le zg hSw.size; go_simp; try with_reducible rfl
              (try simp only [Act.put, List.setIfInBounds_toArray, List.set_cons_zero, List.set_cons_succ])
              refine reg_take (i := 37) (oi := _) (v := ?_) rfl (by kernel_rfl) (by kernel_rfl) (by kernel_rfl) (fun _ _ _ h => h) (by rfl) ?_ (by assumption) ?_
              rotate_left
              · intro w hSw; (try dsimp only at hSw); replace x0 := bel_cell hSw x0; replace x1 := bel_cell hSw x1; replace x2 := bel_cell hSw x2; replace c0 := bel_cell hSw c0; replace c1 := bel_cell hSw c1; replace c2 := bel_cell hSw c2; replace d0 := bel_cell hSw d0; replace zq := Nat.lt_of_lt_of_le zq hSw.size; replace zg := Nat.lt_of_lt_of_le zg hSw.size; go_simp; try with_reducible rfl
              (try simp only [Act.put, List.setIfInBounds_toArray, List.set_cons_zero, List.set_cons_succ])
              refine wpAnyH_ready (rs := [35]) (by kernel_rfl) (by simp) ?_
              refine reg_each (o := _) rfl (fun K hK => ?_) ?_
              · skip
                go_simp
                obtain ⟨A6, c6, e6⟩ := HRI.out.qs.slice
                refine (len_walk Q B R A6 L.length c6 _ (by have := (HRI.out.below hB2 hHeld).qs.qb; rw [e6] at this; exact this)).mono ?_
                rintro r w5 ⟨rfl, rfl⟩
                go_wp2_with (fail)
                refine hK.out _ _ ?_ (fun hHeld2 => ?_)
                · exact hHeld
                clear hK K hHeld
                have hHeld := hHeld2
                clear hHeld2
                (try simp only [Act.put, List.setIfInBounds_toArray, List.set_cons_zero, List.set_cons_succ])
                refine reg_take (i := 38) (oi := _) (v := ?_) rfl (by kernel_rfl) (by kernel_rfl) (by kernel_rfl) (fun _ _ _ h => h) (by rfl) ?_ (by assumption) ?_
                rotate_left
                · intro w hSw; (try dsimp only at hSw); replace x0 := bel_cell hSw x0; replace x1 := bel_cell hSw x1; replace x2 := bel_cell hSw x2; replace c0 := bel_cell hSw c0; replace c1 := bel_cell hSw c1; replace c2 := bel_cell hSw c2; replace d0 := bel_cell hSw d0; replace zq := Nat.lt_of_lt_of_le zq hSw.size; replace zg := Nat.lt_of_lt_of_le zg hSw.size; go_simp; try with_reducible rfl
                (try simp only [Act.put, List.setIfInBounds_toArray, List.set_cons_zero, List.set_cons_succ])
                refine reg_take (i := 39) (oi := _) (v := ?_) rfl (by kernel_rfl) (by kernel_rfl) (by kernel_rfl) (fun _ _ _ h => h) (by rfl) ?_ (by assumption) ?_
                rotate_left
                · intro w hSw; (try dsimp only at hSw); replace x0 := bel_cell hSw x0; replace x1 := bel_cell hSw x1; replace x2 := bel_cell hSw x2; replace c0 := bel_cell hSw c0; replace c1 := bel_cell hSw c1; replace c2 := bel_cell hSw c2; replace d0 := bel_cell hSw d0; replace zq := Nat.lt_of_lt_of_le zq hSw.size; replace zg := Nat.lt_of_lt_of_le zg hSw.size; go_simp; try with_reducible rfl
                (try simp only [Act.put, List.setIfInBounds_toArray, List.set_cons_zero, List.set_cons_succ])
                refine reg_take (i := 40) (oi := _) (v := ?_) rfl (by kernel_rfl) (by kernel_rfl) (by kernel_rfl) (fun _ _ _ h => h) (by rfl) ?_ (by assumption) ?_
                rotate_left
                · intro w hSw; (try dsimp only at hSw); replace x0 := bel_cell hSw x0; replace x1 := bel_cell hSw x1; replace x2 := bel_cell hSw x2; replace c0 := bel_cell hSw c0; replace c1 := bel_cell hSw c1; replace c2 := bel_cell hSw c2; replace d0 := bel_cell hSw d0; replace zq := Nat.lt_of_lt_of_le zq hSw.size; replace zg := Nat.lt_of_lt_of_le zg hSw.size; go_simp; try with_reducible rfl
                (try simp only [Act.put, List.setIfInBounds_toArray, List.set_cons_zero, List.set_cons_succ])
                refine reg_take (i := 41) (oi := _) (v := ?_) rfl (by kernel_rfl) (by kernel_rfl) (by kernel_rfl) (fun _ _ _ h => h) (by rfl) ?_ (by assumption) ?_
                rotate_left
                · intro w hSw; (try dsimp only at hSw); replace x0 := bel_cell hSw x0; replace x1 := bel_cell hSw x1; replace x2 := bel_cell hSw x2; replace c0 := bel_cell hSw c0; replace c1 := bel_cell hSw c1; replace c2 := bel_cell hSw c2; replace d0 := bel_cell hSw d0; replace zq := Nat.lt_of_lt_of_le zq hSw.size; replace zg := Nat.lt_of_lt_of_le zg hSw.size; go_simp; try with_reducible rfl
                (try simp only [Act.put, List.setIfInBounds_toArray, List.set_cons_zero, List.set_cons_succ])
                refine reg_take (i := 43) (oi := _) (v := ?_) rfl (by kernel_rfl) (by kernel_rfl) (by kernel_rfl) (fun _ _ _ h => h) (by rfl) ?_ (by assumption) ?_
                rotate_left
                · intro w hSw; (try dsimp only at hSw); replace x0 := bel_cell hSw x0; replace x1 := bel_cell hSw x1; replace x2 := bel_cell hSw x2; replace c0 := bel_cell hSw c0; replace c1 := bel_cell hSw c1; replace c2 := bel_cell hSw c2; replace d0 := bel_cell hSw d0; replace zq := Nat.lt_of_lt_of_le zq hSw.size; replace zg := Nat.lt_of_lt_of_le zg hSw.size; go_simp; try with_reducible rfl
                (try simp only [Act.put, List.setIfInBounds_toArray, List.set_cons_zero, List.set_cons_succ])
                refine wpAnyH_ready (rs := [42]) (by kernel_rfl) (by simp) ?_
                refine reg_each (o := _) rfl (fun K hK => ?_) ?_
                · skip
                  go_simp
                  refine (list_ok B Q B L.length hv R f m _ (HRI.out.below hB2 hHeld).qs HL.out).mono ?_
                  rintro r w5 ⟨v5, L5, rfl, hp5, hm5, hl5, hown5, hb5⟩
                  have e5 := asc_uniq hp5 HRI.out.ok.asc (fun y => (hm5 y).trans (HRI.out.mem y).symm)
                  rw [e5] at hown5 hl5
                  have RD5 := Lib.hid (RdE.of_owns hown5 hl5)
                  clear hp5 hm5 hl5 hown5 e5
                  go_wp2_with (fail)
                  refine hK.out _ _ ?_ (fun hHeld2 => ?_)
                  · exact below_trans hHeld hb5
                  clear hK K hHeld
                  have hHeld := hHeld2
                  clear hHeld2
                  (try simp only [Act.put, List.setIfInBounds_toArray, List.set_cons_zero, List.set_cons_succ])
                  refine wpAnyH_ready (rs := [44]) (by kernel_rfl) (by simp) ?_
                  refine reg_each (o := _) rfl (fun K hK => ?_) ?_
                  · skip
                    go_simp
                    refine (same_walk _ _ L _ RD5.out (HRD.out.below hHeld) HL.out).mono ?_
                    rintro r w6 ⟨rfl, hb6⟩
                    go_wp2_with (fail)
                    refine hK.out _ _ ?_ (fun hHeld2 => ?_)
                    · exact below_trans hHeld hb6
                    clear hK K hHeld
                    have hHeld := hHeld2
                    clear hHeld2
                    (try simp only [Act.put, List.setIfInBounds_toArray, List.set_cons_zero, List.set_cons_succ])
                    refine reg_take (i := 45) (oi := _) (v := ?_) rfl (by kernel_rfl) (by kernel_rfl) (by kernel_rfl) (fun _ _ _ h => h) (by rfl) ?_ (by assumption) ?_
                    rotate_left
                    · intro w hSw; (try dsimp only at hSw); replace x0 := bel_cell hSw x0; replace x1 := bel_cell hSw x1; replace x2 := bel_cell hSw x2; replace c0 := bel_cell hSw c0; replace c1 := bel_cell hSw c1; replace c2 := bel_cell hSw c2; replace d0 := bel_cell hSw d0; replace zq := Nat.lt_of_lt_of_le zq hSw.size; replace zg := Nat.lt_of_lt_of_le zg hSw.size; go_simp; try with_reducible rfl
                    (try simp only [Act.put, List.setIfInBounds_toArray, List.set_cons_zero, List.set_cons_succ])
                    refine reg_take (i := 46) (oi := _) (v := ?_) rfl (by kernel_rfl) (by kernel_rfl) (by kernel_rfl) (fun _ _ _ h => h) (by rfl) ?_ (by assumption) ?_
                    rotate_left
                    · intro w hSw; (try dsimp only at hSw); replace x0 := bel_cell hSw x0; replace x1 := bel_cell hSw x1; replace x2 := bel_cell hSw x2; replace c0 := bel_cell hSw c0; replace c1 := bel_cell hSw c1; replace c2 := bel_cell hSw c2; replace d0 := bel_cell hSw d0; replace zq := Nat.lt_of_lt_of_le zq hSw.size; replace zg := Nat.lt_of_lt_of_le zg hSw.size; go_simp; try with_reducible rfl
                    (try simp only [Act.put, List.setIfInBounds_toArray, List.set_cons_zero, List.set_cons_succ])
                    refine wpAnyH_done (by kernel_rfl) ?_ _
                    refine NoPanic.normal ?_
                    have HF := Lib.hid ((HRI.out.below hB2 hHeld))
                    clear hHeld x0 x1 x2 c0 c1 c2 d0 zq zg
                    go_wp2_with (fail)
                    go_roundw
                    case rel => exact ⟨i + 1, _, L, f, m, by omega, by go_num, HF.out⟩
                    case measure => simp [intOf]; omega
                  exact AllReadyH.nil
                exact AllReadyH.nil
              exact AllReadyH.nil
          · as_aux_lemma =>
              have hBc : B ≤ wc.heap.size := hri.size (by omega)
              have hL20 := hri.le
              have FS := Lib.hid (first_ok B Q B n hv R f m wc (by rw [← hn]; exact hri.qs))
              have h00 := hri.first (by omega)
              generalize hE : f 0 = E at *
              have hLp := Lib.hid (show (0 : Int) < (L.length : Int) by omega)
              have hLe := Lib.hid (show L.length ≤ 65536 by omega)
              clear hn
              unfold evV at FS
              have HRI := Lib.hid hri
              have HPO := Lib.hid hpo
              clear hri hpo 
              go_wp2_with (fail)
              refine FS.out.mono ?_
              rintro r w1 ⟨rfl, b1⟩
              have ri1 := HRI.out.below hBc b1
              have po1 := HPO.out.below b1
              have hB1 : B ≤ w1.heap.size := Nat.le_trans hBc b1.size
              clear FS HRI HPO b1
              go_upto_region 28 with (fail)
              have hq := Blk.new w1 30 (evV E)
              have bq := below_al (Below.refl w1.heap.size w1) (.cells (evV E) 30)
              have ri2 := ri1.below hB1 bq
              have po2 := po1.below bq
              clear ri1 po1 bq
              unfold evV at hq ri2 po2
              generalize w1.alloc (Obj.cells #[Value.int IntKind.i64 E.t, Value.int IntKind.i64 E.k, Value.int IntKind.i64 E.d] 30) = W2 at *
              generalize w1.heap.size = q at *
              have hB2 : B ≤ W2.heap.size := ri2.size (by omega)
              have HRI := Lib.hid ri2
              have HPO := Lib.hid po2
              have HQ := Lib.hid hq
              have FD := Lib.hid (find_ok B Q B L.length hv R f m z u W2 ri2.qs)
              have RF := Lib.hid (reffind_walk _ L z u W2 ri2.rd (by have := ri2.le; omega))
              have hbk := po2.blk
              have P1 : W2.cell? ⟨p, 1, none⟩ = some (.int .i64 y) := by rw [hbk.cell]; rfl
              have P2 : W2.cell? ⟨p, 2, none⟩ = some (.int .i64 z) := by rw [hbk.cell]; rfl
              have P3 : W2.cell? ⟨p, 3, none⟩ = some (.int .i64 u) := by rw [hbk.cell]; rfl
              have zp := hbk.lt
              clear hbk
              have hno : ∀ x ∈ L, ¬ KD x z u := by
                rcases ri2.key z u with ⟨hm, hno⟩ | ⟨ii, jj, hm, hjj, hfj, hkd, hin⟩
                · exact hno
                · exact absurd hfound (by simp [hm])
              rw [Option.not_isSome_iff_eq_none.1 hfound] at FD
              simp only [Option.isSome] at FD
              have HNO := Lib.hid hno
              clear hno hfound
              clear ri2 po2 hq
              go_wp2_with (fail)
              refine FD.out.mono ?_
              rintro r w3 ⟨rfl, rfl⟩
              clear FD
              go_wp2_with (fail)
              refine RF.out.mono ?_
              rintro r w4 ⟨rfl, rr, rfl, hfd⟩
              clear RF P1 P2 P3 zp
              obtain rfl : rr = -1 := by
                rcases hfd with ⟨e, _⟩ | ⟨jx, hjx, _, hkx⟩
                · exact e
                · exact absurd hkx (HNO.out _ (getD_mem hjx))
              clear hfd HNO
              obtain ⟨W3, hW3⟩ : ∃ Z, Z = w4 := ⟨_, rfl⟩
              subst hW3
              go_upto_region 30 with (fail)
              have x0 : W3.cell? ⟨q, 0, none⟩ = some (.int .i64 E.t) := by rw [HQ.out.cell]; rfl
              have x1 : W3.cell? ⟨q, 1, none⟩ = some (.int .i64 E.k) := by rw [HQ.out.cell]; rfl
              have x2 : W3.cell? ⟨q, 2, none⟩ = some (.int .i64 E.d) := by rw [HQ.out.cell]; rfl
              have zq := HQ.out.lt
              have hrd := HRI.out.rd
              have HRD := Lib.hid hrd
              obtain ⟨A3, cap3, e3, hx3, hx4, hx5, hh3⟩ := hrd.form
              clear hx3 hx4 hx5
              obtain ⟨g3, o3, rfl, zg, c0, c1, c2⟩ := hh3 0 (by have := hLp.out; omega)
              simp only [Value.slice.injEq] at e3
              obtain ⟨rfl, _, rfl⟩ := e3
              rw [h00] at c0 c1 c2
              simp only [Nat.zero_mul, Nat.add_zero] at c0 c1 c2
              have e1 : (E.t == E.t) = true := by simp
              have e2 : (E.k == E.k) = true := by simp
              have e4 : (E.d == E.d) = true := by simp
              have hLp1 := hLp.out
              have hi0 : 0 < L.length := by omega
              have hLb : decide (0 < L.length) = true := decide_eq_true hi0
              have hLb2 : decide ((0 : Int) < (L.length : Int)) = true := decide_eq_true hLp1
              clear hh3
              clear hrd
              have HL := Lib.hid (show L.length ≤ 65536 by have := HRI.out.le; omega)
              refine wp_region_noPanic ?_
              refine wp_region_held_drew (S := (fun w' => Below W3.heap.size W3 w')) (by kernel_rfl) ?_ (fun hHeld => ?_)
              · exact below_drewN (Below.refl _ _) 1
              refine reg_take (i := 0) (oi := _) (v := ?_) rfl (by kernel_rfl) (by kernel_rfl) (by kernel_rfl) (fun _ _ _ h => h) (by rfl) ?_ (by assumption) ?_
              rotate_left
              · intro w hSw; (try dsimp only at hSw); replace x0 := bel_cell hSw x0; replace x1 := bel_cell hSw x1; replace x2 := bel_cell hSw x2; replace c0 := bel_cell hSw c0; replace c1 := bel_cell hSw c1; replace c2 := bel_cell hSw c2; replace zq := Nat.lt_of_lt_of_le zq hSw.size; replace zg := Nat.lt_of_lt_of_le zg hSw.size; go_simp; try with_reducible rfl
              (try simp only [Act.put, List.setIfInBounds_toArray, List.set_cons_zero, List.set_cons_succ])
              refine reg_take (i := 1) (oi := _) (v := ?_) rfl (by kernel_rfl) (by kernel_rfl) (by kernel_rfl) (fun _ _ _ h => h) (by rfl) ?_ (by assumption) ?_
              rotate_left
              · intro w hSw; (try dsimp only at hSw); replace x0 := bel_cell hSw x0; replace x1 := bel_cell hSw x1; replace x2 := bel_cell hSw x2; replace c0 := bel_cell hSw c0; replace c1 := bel_cell hSw c1; replace c2 := bel_cell hSw c2; replace zq := Nat.lt_of_lt_of_le zq hSw.size; replace zg := Nat.lt_of_lt_of_le zg hSw.size; go_simp; try with_reducible rfl
              (try simp only [Act.put, List.setIfInBounds_toArray, List.set_cons_zero, List.set_cons_succ])
              refine reg_take (i := 2) (oi := _) (v := ?_) rfl (by kernel_rfl) (by kernel_rfl) (by kernel_rfl) (fun _ _ _ h => h) (by rfl) ?_ (by assumption) ?_
              rotate_left
              · intro w hSw; (try dsimp only at hSw); replace x0 := bel_cell hSw x0; replace x1 := bel_cell hSw x1; replace x2 := bel_cell hSw x2; replace c0 := bel_cell hSw c0; replace c1 := bel_cell hSw c1; replace c2 := bel_cell hSw c2; replace zq := Nat.lt_of_lt_of_le zq hSw.size; replace zg := Nat.lt_of_lt_of_le zg hSw.size; go_simp; try with_reducible rfl
              (try simp only [Act.put, List.setIfInBounds_toArray, List.set_cons_zero, List.set_cons_succ])
              refine reg_take (i := 3) (oi := _) (v := ?_) rfl (by kernel_rfl) (by kernel_rfl) (by kernel_rfl) (fun _ _ _ h => h) (by rfl) ?_ (by assumption) ?_
              rotate_left
              · intro w hSw; (try dsimp only at hSw); replace x0 := bel_cell hSw x0; replace x1 := bel_cell hSw x1; replace x2 := bel_cell hSw x2; replace c0 := bel_cell hSw c0; replace c1 := bel_cell hSw c1; replace c2 := bel_cell hSw c2; replace zq := Nat.lt_of_lt_of_le zq hSw.size; replace zg := Nat.lt_of_lt_of_le zg hSw.size; go_simp; try with_reducible rfl
              (try simp only [Act.put, List.setIfInBounds_toArray, List.set_cons_zero, List.set_cons_succ])
              refine reg_take (i := 4) (oi := _) (v := ?_) rfl (by kernel_rfl) (by kernel_rfl) (by kernel_rfl) (fun _ _ _ h => h) (by rfl) ?_ (by assumption) ?_
              rotate_left
              · intro w hSw; (try dsimp only at hSw); replace x0 := bel_cell hSw x0; replace x1 := bel_cell hSw x1; replace x2 := bel_cell hSw x2; replace c0 := bel_cell hSw c0; replace c1 := bel_cell hSw c1; replace c2 := bel_cell hSw c2; replace zq := Nat.lt_of_lt_of_le zq hSw.size; replace zg := Nat.lt_of_lt_of_le zg hSw.size; go_simp; try with_reducible rfl
              (try simp only [Act.put, List.setIfInBounds_toArray, List.set_cons_zero, List.set_cons_succ])
              refine reg_take (i := 5) (oi := _) (v := ?_) rfl (by kernel_rfl) (by kernel_rfl) (by kernel_rfl) (fun _ _ _ h => h) (by rfl) ?_ (by assumption) ?_
              rotate_left
              · intro w hSw; (try dsimp only at hSw); replace x0 := bel_cell hSw x0; replace x1 := bel_cell hSw x1; replace x2 := bel_cell hSw x2; replace c0 := bel_cell hSw c0; replace c1 := bel_cell hSw c1; replace c2 := bel_cell hSw c2; replace zq := Nat.lt_of_lt_of_le zq hSw.size; replace zg := Nat.lt_of_lt_of_le zg hSw.size; go_simp; try with_reducible rfl
              (try simp only [Act.put, List.setIfInBounds_toArray, List.set_cons_zero, List.set_cons_succ])
              refine reg_take (i := 6) (oi := _) (v := ?_) rfl (by kernel_rfl) (by kernel_rfl) (by kernel_rfl) (fun _ _ _ h => h) (by rfl) ?_ (by assumption) ?_
              rotate_left
              · intro w hSw; (try dsimp only at hSw); replace x0 := bel_cell hSw x0; replace x1 := bel_cell hSw x1; replace x2 := bel_cell hSw x2; replace c0 := bel_cell hSw c0; replace c1 := bel_cell hSw c1; replace c2 := bel_cell hSw c2; replace zq := Nat.lt_of_lt_of_le zq hSw.size; replace zg := Nat.lt_of_lt_of_le zg hSw.size; go_simp; try with_reducible rfl
              (try simp only [Act.put, List.setIfInBounds_toArray, List.set_cons_zero, List.set_cons_succ])
              refine reg_take (i := 7) (oi := _) (v := ?_) rfl (by kernel_rfl) (by kernel_rfl) (by kernel_rfl) (fun _ _ _ h => h) (by rfl) ?_ (by assumption) ?_
              rotate_left
              · intro w hSw; (try dsimp only at hSw); replace x0 := bel_cell hSw x0; replace x1 := bel_cell hSw x1; replace x2 := bel_cell hSw x2; replace c0 := bel_cell hSw c0; replace c1 := bel_cell hSw c1; replace c2 := bel_cell hSw c2; replace zq := Nat.lt_of_lt_of_le zq hSw.size; replace zg := Nat.lt_of_lt_of_le zg hSw.size; go_simp; try with_reducible rfl
              (try simp only [Act.put, List.setIfInBounds_toArray, List.set_cons_zero, List.set_cons_succ])
              refine reg_take (i := 8) (oi := _) (v := ?_) rfl (by kernel_rfl) (by kernel_rfl) (by kernel_rfl) (fun _ _ _ h => h) (by rfl) ?_ (by assumption) ?_
              rotate_left
              · intro w hSw; (try dsimp only at hSw); replace x0 := bel_cell hSw x0; replace x1 := bel_cell hSw x1; replace x2 := bel_cell hSw x2; replace c0 := bel_cell hSw c0; replace c1 := bel_cell hSw c1; replace c2 := bel_cell hSw c2; replace zq := Nat.lt_of_lt_of_le zq hSw.size; replace zg := Nat.lt_of_lt_of_le zg hSw.size; go_simp; try with_reducible rfl
              (try simp only [Act.put, List.setIfInBounds_toArray, List.set_cons_zero, List.set_cons_succ])
              refine reg_take (i := 9) (oi := _) (v := ?_) rfl (by kernel_rfl) (by kernel_rfl) (by kernel_rfl) (fun _ _ _ h => h) (by rfl) ?_ (by assumption) ?_
              rotate_left
              · intro w hSw; (try dsimp only at hSw); replace x0 := bel_cell hSw x0; replace x1 := bel_cell hSw x1; replace x2 := bel_cell hSw x2; replace c0 := bel_cell hSw c0; replace c1 := bel_cell hSw c1; replace c2 := bel_cell hSw c2; replace zq := Nat.lt_of_lt_of_le zq hSw.size; replace zg := Nat.lt_of_lt_of_le zg hSw.size; go_simp; try with_reducible rfl
              (try simp only [Act.put, List.setIfInBounds_toArray, List.set_cons_zero, List.set_cons_succ])
              refine reg_take (i := 10) (oi := _) (v := ?_) rfl (by kernel_rfl) (by kernel_rfl) (by kernel_rfl) (fun _ _ _ h => h) (by rfl) ?_ (by assumption) ?_
              rotate_left
              · intro w hSw; (try dsimp only at hSw); replace x0 := bel_cell hSw x0; replace x1 := bel_cell hSw x1; replace x2 := bel_cell hSw x2; replace c0 := bel_cell hSw c0; replace c1 := bel_cell hSw c1; replace c2 := bel_cell hSw c2; replace zq := Nat.lt_of_lt_of_le zq hSw.size; replace zg := Nat.lt_of_lt_of_le zg hSw.size; go_simp; try with_reducible rfl
              (try simp only [Act.put, List.setIfInBounds_toArray, List.set_cons_zero, List.set_cons_succ])
              refine reg_take (i := 11) (oi := _) (v := ?_) rfl (by kernel_rfl) (by kernel_rfl) (by kernel_rfl) (fun _ _ _ h => h) (by rfl) ?_ (by assumption) ?_
              rotate_left
              · intro w hSw; (try dsimp only at hSw); replace x0 := bel_cell hSw x0; replace x1 := bel_cell hSw x1; replace x2 := bel_cell hSw x2; replace c0 := bel_cell hSw c0; replace c1 := bel_cell hSw c1; replace c2 := bel_cell hSw c2; replace zq := Nat.lt_of_lt_of_le zq hSw.size; replace zg := Nat.lt_of_lt_of_le zg hSw.size; go_simp; try with_reducible rfl
              (try simp only [Act.put, List.setIfInBounds_toArray, List.set_cons_zero, List.set_cons_succ])
              refine reg_take (i := 12) (oi := _) (v := ?_) rfl (by kernel_rfl) (by kernel_rfl) (by kernel_rfl) (fun _ _ _ h => h) (by rfl) ?_ (by assumption) ?_
              rotate_left
              · intro w hSw; (try dsimp only at hSw); replace x0 := bel_cell hSw x0; replace x1 := bel_cell hSw x1; replace x2 := bel_cell hSw x2; replace c0 := bel_cell hSw c0; replace c1 := bel_cell hSw c1; replace c2 := bel_cell hSw c2; replace zq := Nat.lt_of_lt_of_le zq hSw.size; replace zg := Nat.lt_of_lt_of_le zg hSw.size; go_simp; try with_reducible rfl
              (try simp only [Act.put, List.setIfInBounds_toArray, List.set_cons_zero, List.set_cons_succ])
              refine reg_take (i := 13) (oi := _) (v := ?_) rfl (by kernel_rfl) (by kernel_rfl) (by kernel_rfl) (fun _ _ _ h => h) (by rfl) ?_ (by assumption) ?_
              rotate_left
              · intro w hSw; (try dsimp only at hSw); replace x0 := bel_cell hSw x0; replace x1 := bel_cell hSw x1; replace x2 := bel_cell hSw x2; replace c0 := bel_cell hSw c0; replace c1 := bel_cell hSw c1; replace c2 := bel_cell hSw c2; replace zq := Nat.lt_of_lt_of_le zq hSw.size; replace zg := Nat.lt_of_lt_of_le zg hSw.size; go_simp; try with_reducible rfl
              (try simp only [Act.put, List.setIfInBounds_toArray, List.set_cons_zero, List.set_cons_succ])
              refine reg_take (i := 14) (oi := _) (v := ?_) rfl (by kernel_rfl) (by kernel_rfl) (by kernel_rfl) (fun _ _ _ h => h) (by rfl) ?_ (by assumption) ?_
              rotate_left
              · intro w hSw; (try dsimp only at hSw); replace x0 := bel_cell hSw x0; replace x1 := bel_cell hSw x1; replace x2 := bel_cell hSw x2; replace c0 := bel_cell hSw c0; replace c1 := bel_cell hSw c1; replace c2 := bel_cell hSw c2; replace zq := Nat.lt_of_lt_of_le zq hSw.size; replace zg := Nat.lt_of_lt_of_le zg hSw.size; go_simp; try with_reducible rfl
              (try simp only [Act.put, List.setIfInBounds_toArray, List.set_cons_zero, List.set_cons_succ])
              refine reg_take (i := 15) (oi := _) (v := ?_) rfl (by kernel_rfl) (by kernel_rfl) (by kernel_rfl) (fun _ _ _ h => h) (by rfl) ?_ (by assumption) ?_
              rotate_left
              · intro w hSw; (try dsimp only at hSw); replace x0 := bel_cell hSw x0; replace x1 := bel_cell hSw x1; replace x2 := bel_cell hSw x2; replace c0 := bel_cell hSw c0; replace c1 := bel_cell hSw c1; replace c2 := bel_cell hSw c2; replace zq := Nat.lt_of_lt_of_le zq hSw.size; replace zg := Nat.lt_of_lt_of_le zg hSw.size; go_simp; try with_reducible rfl
              (try simp only [Act.put, List.setIfInBounds_toArray, List.set_cons_zero, List.set_cons_succ])
              refine reg_take (i := 16) (oi := _) (v := ?_) rfl (by kernel_rfl) (by kernel_rfl) (by kernel_rfl) (fun _ _ _ h => h) (by rfl) ?_ (by assumption) ?_
              rotate_left
              · intro w hSw; (try dsimp only at hSw); replace x0 := bel_cell hSw x0; replace x1 := bel_cell hSw x1; replace x2 := bel_cell hSw x2; replace c0 := bel_cell hSw c0; replace c1 := bel_cell hSw c1; replace c2 := bel_cell hSw c2; replace zq := Nat.lt_of_lt_of_le zq hSw.size; replace zg := Nat.lt_of_lt_of_le zg hSw.size; go_simp; try with_reducible rfl
              (try simp only [Act.put, List.setIfInBounds_toArray, List.set_cons_zero, List.set_cons_succ])
              refine reg_take (i := 17) (oi := _) (v := ?_) rfl (by kernel_rfl) (by kernel_rfl) (by kernel_rfl) (fun _ _ _ h => h) (by rfl) ?_ (by assumption) ?_
              rotate_left
              · intro w hSw; (try dsimp only at hSw); replace x0 := bel_cell hSw x0; replace x1 := bel_cell hSw x1; replace x2 := bel_cell hSw x2; replace c0 := bel_cell hSw c0; replace c1 := bel_cell hSw c1; replace c2 := bel_cell hSw c2; replace zq := Nat.lt_of_lt_of_le zq hSw.size; replace zg := Nat.lt_of_lt_of_le zg hSw.size; go_simp; try with_reducible rfl
              (try simp only [Act.put, List.setIfInBounds_toArray, List.set_cons_zero, List.set_cons_succ])
              refine reg_take (i := 18) (oi := _) (v := ?_) rfl (by kernel_rfl) (by kernel_rfl) (by kernel_rfl) (fun _ _ _ h => h) (by rfl) ?_ (by assumption) ?_
              rotate_left
              · intro w hSw; (try dsimp only at hSw); replace x0 := bel_cell hSw x0; replace x1 := bel_cell hSw x1; replace x2 := bel_cell hSw x2; replace c0 := bel_cell hSw c0; replace c1 := bel_cell hSw c1; replace c2 := bel_cell hSw c2; replace zq := Nat.lt_of_lt_of_le zq hSw.size; replace zg := Nat.lt_of_lt_of_le zg hSw.size; go_simp; try with_reducible rfl
              (try simp only [Act.put, List.setIfInBounds_toArray, List.set_cons_zero, List.set_cons_succ])
              refine reg_take (i := 19) (oi := _) (v := ?_) rfl (by kernel_rfl) (by kernel_rfl) (by kernel_rfl) (fun _ _ _ h => h) (by rfl) ?_ (by assumption) ?_
              rotate_left
              · intro w hSw; (try dsimp only at hSw); replace x0 := bel_cell hSw x0; replace x1 := bel_cell hSw x1; replace x2 := bel_cell hSw x2; replace c0 := bel_cell hSw c0; replace c1 := bel_cell hSw c1; replace c2 := bel_cell hSw c2; replace zq := Nat.lt_of_lt_of_le zq hSw.size; replace zg := Nat.lt_of_lt_of_le zg hSw.size; go_simp; try with_reducible rfl
              (try simp only [Act.put, List.setIfInBounds_toArray, List.set_cons_zero, List.set_cons_succ])
              refine reg_take (i := 20) (oi := _) (v := ?_) rfl (by kernel_rfl) (by kernel_rfl) (by kernel_rfl) (fun _ _ _ h => h) (by rfl) ?_ (by assumption) ?_
              rotate_left
              · intro w hSw; (try dsimp only at hSw); replace x0 := bel_cell hSw x0; replace x1 := bel_cell hSw x1; replace x2 := bel_cell hSw x2; replace c0 := bel_cell hSw c0; replace c1 := bel_cell hSw c1; replace c2 := bel_cell hSw c2; replace zq := Nat.lt_of_lt_of_le zq hSw.size; replace zg := Nat.lt_of_lt_of_le zg hSw.size; go_simp; try with_reducible rfl
              (try simp only [Act.put, List.setIfInBounds_toArray, List.set_cons_zero, List.set_cons_succ])
              refine reg_take (i := 21) (oi := _) (v := ?_) rfl (by kernel_rfl) (by kernel_rfl) (by kernel_rfl) (fun _ _ _ h => h) (by rfl) ?_ (by assumption) ?_
              rotate_left
              · intro w hSw; (try dsimp only at hSw); replace x0 := bel_cell hSw x0; replace x1 := bel_cell hSw x1; replace x2 := bel_cell hSw x2; replace c0 := bel_cell hSw c0; replace c1 := bel_cell hSw c1; replace c2 := bel_cell hSw c2; replace zq := Nat.lt_of_lt_of_le zq hSw.size; replace zg := Nat.lt_of_lt_of_le zg hSw.size; go_simp; try with_reducible rfl
              (try simp only [Act.put, List.setIfInBounds_toArray, List.set_cons_zero, List.set_cons_succ])
              refine reg_take (i := 22) (oi := _) (v := ?_) rfl (by kernel_rfl) (by kernel_rfl) (by kernel_rfl) (fun _ _ _ h => h) (by rfl) ?_ (by assumption) ?_
              rotate_left
              · intro w hSw; (try dsimp only at hSw); replace x0 := bel_cell hSw x0; replace x1 := bel_cell hSw x1; replace x2 := bel_cell hSw x2; replace c0 := bel_cell hSw c0; replace c1 := bel_cell hSw c1; replace c2 := bel_cell hSw c2; replace zq := Nat.lt_of_lt_of_le zq hSw.size; replace zg := Nat.lt_of_lt_of_le zg hSw.size; go_simp; try with_reducible rfl
              (try simp only [Act.put, List.setIfInBounds_toArray, List.set_cons_zero, List.set_cons_succ])
              refine reg_take (i := 23) (oi := _) (v := ?_) rfl (by kernel_rfl) (by kernel_rfl) (by kernel_rfl) (fun _ _ _ h => h) (by rfl) ?_ (by assumption) ?_
              rotate_left
              · intro w hSw; (try dsimp only at hSw); replace x0 := bel_cell hSw x0; replace x1 := bel_cell hSw x1; replace x2 := bel_cell hSw x2; replace c0 := bel_cell hSw c0; replace c1 := bel_cell hSw c1; replace c2 := bel_cell hSw c2; replace zq := Nat.lt_of_lt_of_le zq hSw.size; replace zg := Nat.lt_of_lt_of_le zg hSw.size; go_simp; try with_reducible rfl
              (try simp only [Act.put, List.setIfInBounds_toArray, List.set_cons_zero, List.set_cons_succ])
              refine reg_skip (i := 24) (oi := _) rfl (by kernel_rfl) (by kernel_rfl) (by kernel_rfl) (fun _ _ _ h => h) (by rfl) (by assumption) ?_
              (try simp only [Act.put, List.setIfInBounds_toArray, List.set_cons_zero, List.set_cons_succ])
              refine reg_skip (i := 25) (oi := _) rfl (by kernel_rfl) (by kernel_rfl) (by kernel_rfl) (fun _ _ _ h => h) (by rfl) (by assumption) ?_
              (try simp only [Act.put, List.setIfInBounds_toArray, List.set_cons_zero, List.set_cons_succ])
              refine reg_skip (i := 26) (oi := _) rfl (by kernel_rfl) (by kernel_rfl) (by kernel_rfl) (fun _ _ _ h => h) (by rfl) (by assumption) ?_
              (try simp only [Act.put, List.setIfInBounds_toArray, List.set_cons_zero, List.set_cons_succ])
              refine reg_skip (i := 27) (oi := _) rfl (by kernel_rfl) (by kernel_rfl) (by kernel_rfl) (fun _ _ _ h => h) (by rfl) (by assumption) ?_
              (try simp only [Act.put, List.setIfInBounds_toArray, List.set_cons_zero, List.set_cons_succ])
              refine reg_skip (i := 28) (oi := _) rfl (by kernel_rfl) (by kernel_rfl) (by kernel_rfl) (fun _ _ _ h => h) (by rfl) (by assumption) ?_
              (try simp only [Act.put, List.setIfInBounds_toArray, List.set_cons_zero, List.set_cons_succ])
              refine reg_skip (i := 29) (oi := _) rfl (by kernel_rfl) (by kernel_rfl) (by kernel_rfl) (fun _ _ _ h => h) (by rfl) (by assumption) ?_
              (try simp only [Act.put, List.setIfInBounds_toArray, List.set_cons_zero, List.set_cons_succ])
              refine reg_skip (i := 30) (oi := _) rfl (by kernel_rfl) (by kernel_rfl) (by kernel_rfl) (fun _ _ _ h => h) (by rfl) (by assumption) ?_
              (try simp only [Act.put, List.setIfInBounds_toArray, List.set_cons_zero, List.set_cons_succ])
              refine reg_take (i := 31) (oi := _) (v := ?_) rfl (by kernel_rfl) (by kernel_rfl) (by kernel_rfl) (fun _ _ _ h => h) (by rfl) ?_ (by assumption) ?_
              rotate_left
              · intro w hSw; (try dsimp only at hSw); replace x0 := bel_cell hSw x0; replace x1 := bel_cell hSw x1; replace x2 := bel_cell hSw x2; replace c0 := bel_cell hSw c0; replace c1 := bel_cell hSw c1; replace c2 := bel_cell hSw c2; replace zq := Nat.lt_of_lt_of_le zq hSw.size; replace zg := Nat.lt_of_lt_of_le zg hSw.size; go_simp; try with_reducible rfl
              (try simp only [Act.put, List.setIfInBounds_toArray, List.set_cons_zero, List.set_cons_succ])
              refine reg_take (i := 32) (oi := _) (v := ?_) rfl (by kernel_rfl) (by kernel_rfl) (by kernel_rfl) (fun _ _ _ h => h) (by rfl) ?_ (by assumption) ?_
              rotate_left
              · intro w hSw; (try dsimp only at hSw); replace x0 := bel_cell hSw x0; replace x1 := bel_cell hSw x1; replace x2 := bel_cell hSw x2; replace c0 := bel_cell hSw c0; replace c1 := bel_cell hSw c1; replace c2 := bel_cell hSw c2; replace zq := Nat.lt_of_lt_of_le zq hSw.size; replace zg := Nat.lt_of_lt_of_le zg hSw.size; go_simp; try with_reducible rfl
              (try simp only [Act.put, List.setIfInBounds_toArray, List.set_cons_zero, List.set_cons_succ])
              refine reg_take (i := 33) (oi := _) (v := ?_) rfl (by kernel_rfl) (by kernel_rfl) (by kernel_rfl) (fun _ _ _ h => h) (by rfl) ?_ (by assumption) ?_
              rotate_left
              · intro w hSw; (try dsimp only at hSw); replace x0 := bel_cell hSw x0; replace x1 := bel_cell hSw x1; replace x2 := bel_cell hSw x2; replace c0 := bel_cell hSw c0; replace c1 := bel_cell hSw c1; replace c2 := bel_cell hSw c2; replace zq := Nat.lt_of_lt_of_le zq hSw.size; replace zg := Nat.lt_of_lt_of_le zg hSw.size; go_simp; try with_reducible rfl
              (try simp only [Act.put, List.setIfInBounds_toArray, List.set_cons_zero, List.set_cons_succ])
              refine reg_take (i := 34) (oi := _) (v := ?_) rfl (by kernel_rfl) (by kernel_rfl) (by kernel_rfl) (fun _ _ _ h => h) (by rfl) ?_ (by assumption) ?_
              rotate_left
              · intro w hSw; (try dsimp only at hSw); replace x0 := bel_cell hSw x0; replace x1 := bel_cell hSw x1; replace x2 := bel_cell hSw x2; replace c0 := bel_cell hSw c0; replace c1 := bel_cell hSw c1; replace c2 := bel_cell hSw c2; replace zq := Nat.lt_of_lt_of_le zq hSw.size; replace zg := Nat.lt_of_lt_of_le zg hSw.size; go_simp; try with_reducible rfl
              (try simp only [Act.put, List.setIfInBounds_toArray, List.set_cons_zero, List.set_cons_succ])
              refine reg_take (i := 36) (oi := _) (v := ?_) rfl (by kernel_rfl) (by kernel_rfl) (by kernel_rfl) (fun _ _ _ h => h) (by rfl) ?_ (by assumption) ?_
              rotate_left
              · intro w hSw; (try dsimp only at hSw); replace x0 := bel_cell hSw x0; replace x1 := bel_cell hSw x1; replace x2 := bel_cell hSw x2; replace c0 := bel_cell hSw c0; replace c1 := bel_cell hSw c1; replace c2 := bel_cell hSw c2; replace zq := Nat.lt_of_lt_of_le zq hSw.size; replace zg := Nat.lt_of_lt_of_le zg hSw.size; go_simp; try with_reducible rfl
              (try simp only [Act.put, List.setIfInBounds_toArray, List.set_cons_zero, List.set_cons_succ])
              refine reg_take (i := 37) (oi := _) (v := ?_) rfl (by kernel_rfl) (by kernel_rfl) (by kernel_rfl) (fun _ _ _ h => h) (by rfl) ?_ (by assumption) ?_
              rotate_left
              · intro w hSw; (try dsimp only at hSw); replace x0 := bel_cell hSw x0; replace x1 := bel_cell hSw x1; replace x2 := bel_cell hSw x2; replace c0 := bel_cell hSw c0; replace c1 := bel_cell hSw c1; replace c2 := bel_cell hSw c2; replace zq := Nat.lt_of_lt_of_le zq hSw.size; replace zg := Nat.lt_of_lt_of_le zg hSw.size; go_simp; try with_reducible rfl
              (try simp only [Act.put, List.setIfInBounds_toArray, List.set_cons_zero, List.set_cons_succ])
              refine wpAnyH_ready (rs := [35]) (by kernel_rfl) (by simp) ?_
              refine reg_each (o := _) rfl (fun K hK => ?_) ?_
              · skip
                go_simp
                obtain ⟨A6, c6, e6⟩ := HRI.out.qs.slice
                refine (len_walk Q B R A6 L.length c6 _ (by have := (HRI.out.below hB2 hHeld).qs.qb; rw [e6] at this; exact this)).mono ?_
                rintro r w5 ⟨rfl, rfl⟩
                go_wp2_with (fail)
                refine hK.out _ _ ?_ (fun hHeld2 => ?_)
                · exact hHeld
                clear hK K hHeld
                have hHeld := hHeld2
                clear hHeld2
                (try simp only [Act.put, List.setIfInBounds_toArray, List.set_cons_zero, List.set_cons_succ])
                refine reg_take (i := 38) (oi := _) (v := ?_) rfl (by kernel_rfl) (by kernel_rfl) (by kernel_rfl) (fun _ _ _ h => h) (by rfl) ?_ (by assumption) ?_
                rotate_left
                · intro w hSw; (try dsimp only at hSw); replace x0 := bel_cell hSw x0; replace x1 := bel_cell hSw x1; replace x2 := bel_cell hSw x2; replace c0 := bel_cell hSw c0; replace c1 := bel_cell hSw c1; replace c2 := bel_cell hSw c2; replace zq := Nat.lt_of_lt_of_le zq hSw.size; replace zg := Nat.lt_of_lt_of_le zg hSw.size; go_simp; try with_reducible rfl
                (try simp only [Act.put, List.setIfInBounds_toArray, List.set_cons_zero, List.set_cons_succ])
                refine reg_take (i := 39) (oi := _) (v := ?_) rfl (by kernel_rfl) (by kernel_rfl) (by kernel_rfl) (fun _ _ _ h => h) (by rfl) ?_ (by assumption) ?_
                rotate_left
                · intro w hSw; (try dsimp only at hSw); replace x0 := bel_cell hSw x0; replace x1 := bel_cell hSw x1; replace x2 := bel_cell hSw x2; replace c0 := bel_cell hSw c0; replace c1 := bel_cell hSw c1; replace c2 := bel_cell hSw c2; replace zq := Nat.lt_of_lt_of_le zq hSw.size; replace zg := Nat.lt_of_lt_of_le zg hSw.size; go_simp; try with_reducible rfl
                (try simp only [Act.put, List.setIfInBounds_toArray, List.set_cons_zero, List.set_cons_succ])
                refine reg_take (i := 40) (oi := _) (v := ?_) rfl (by kernel_rfl) (by kernel_rfl) (by kernel_rfl) (fun _ _ _ h => h) (by rfl) ?_ (by assumption) ?_
                rotate_left
                · intro w hSw; (try dsimp only at hSw); replace x0 := bel_cell hSw x0; replace x1 := bel_cell hSw x1; replace x2 := bel_cell hSw x2; replace c0 := bel_cell hSw c0; replace c1 := bel_cell hSw c1; replace c2 := bel_cell hSw c2; replace zq := Nat.lt_of_lt_of_le zq hSw.size; replace zg := Nat.lt_of_lt_of_le zg hSw.size; go_simp; try with_reducible rfl
                (try simp only [Act.put, List.setIfInBounds_toArray, List.set_cons_zero, List.set_cons_succ])
                refine reg_take (i := 41) (oi := _) (v := ?_) rfl (by kernel_rfl) (by kernel_rfl) (by kernel_rfl) (fun _ _ _ h => h) (by rfl) ?_ (by assumption) ?_
                rotate_left
                · intro w hSw; (try dsimp only at hSw); replace x0 := bel_cell hSw x0; replace x1 := bel_cell hSw x1; replace x2 := bel_cell hSw x2; replace c0 := bel_cell hSw c0; replace c1 := bel_cell hSw c1; replace c2 := bel_cell hSw c2; replace zq := Nat.lt_of_lt_of_le zq hSw.size; replace zg := Nat.lt_of_lt_of_le zg hSw.size; go_simp; try with_reducible rfl
                (try simp only [Act.put, List.setIfInBounds_toArray, List.set_cons_zero, List.set_cons_succ])
                refine reg_take (i := 43) (oi := _) (v := ?_) rfl (by kernel_rfl) (by kernel_rfl) (by kernel_rfl) (fun _ _ _ h => h) (by rfl) ?_ (by assumption) ?_
                rotate_left
                · intro w hSw; (try dsimp only at hSw); replace x0 := bel_cell hSw x0; replace x1 := bel_cell hSw x1; replace x2 := bel_cell hSw x2; replace c0 := bel_cell hSw c0; replace c1 := bel_cell hSw c1; replace c2 := bel_cell hSw c2; replace zq := Nat.lt_of_lt_of_le zq hSw.size; replace zg := Nat.lt_of_lt_of_le zg hSw.size; go_simp; try with_reducible rfl
                (try simp only [Act.put, List.setIfInBounds_toArray, List.set_cons_zero, List.set_cons_succ])
                refine wpAnyH_ready (rs := [42]) (by kernel_rfl) (by simp) ?_
                refine reg_each (o := _) rfl (fun K hK => ?_) ?_
                · skip
                  go_simp
                  refine (list_ok B Q B L.length hv R f m _ (HRI.out.below hB2 hHeld).qs HL.out).mono ?_
                  rintro r w5 ⟨v5, L5, rfl, hp5, hm5, hl5, hown5, hb5⟩
                  have e5 := asc_uniq hp5 HRI.out.ok.asc (fun y => (hm5 y).trans (HRI.out.mem y).symm)
                  rw [e5] at hown5 hl5
                  have RD5 := Lib.hid (RdE.of_owns hown5 hl5)
                  clear hp5 hm5 hl5 hown5 e5
                  go_wp2_with (fail)
                  refine hK.out _ _ ?_ (fun hHeld2 => ?_)
                  · exact below_trans hHeld hb5
                  clear hK K hHeld
                  have hHeld := hHeld2
                  clear hHeld2
                  (try simp only [Act.put, List.setIfInBounds_toArray, List.set_cons_zero, List.set_cons_succ])
                  refine wpAnyH_ready (rs := [44]) (by kernel_rfl) (by simp) ?_
                  refine reg_each (o := _) rfl (fun K hK => ?_) ?_
                  · skip
                    go_simp
                    refine (same_walk _ _ L _ RD5.out (HRD.out.below hHeld) HL.out).mono ?_
                    rintro r w6 ⟨rfl, hb6⟩
                    go_wp2_with (fail)
                    refine hK.out _ _ ?_ (fun hHeld2 => ?_)
                    · exact below_trans hHeld hb6
                    clear hK K hHeld
                    have hHeld := hHeld2
                    clear hHeld2
                    (try simp only [Act.put, List.setIfInBounds_toArray, List.set_cons_zero, List.set_cons_succ])
                    refine reg_take (i := 45) (oi := _) (v := ?_) rfl (by kernel_rfl) (by kernel_rfl) (by kernel_rfl) (fun _ _ _ h => h) (by rfl) ?_ (by assumption) ?_
                    rotate_left
                    · intro w hSw; (try dsimp only at hSw); replace x0 := bel_cell hSw x0; replace x1 := bel_cell hSw x1; replace x2 := bel_cell hSw x2; replace c0 := bel_cell hSw c0; replace c1 := bel_cell hSw c1; replace c2 := bel_cell hSw c2; replace zq := Nat.lt_of_lt_of_le zq hSw.size; replace zg := Nat.lt_of_lt_of_le zg hSw.size; go_simp; try with_reducible rfl
                    (try simp only [Act.put, List.setIfInBounds_toArray, List.set_cons_zero, List.set_cons_succ])
                    refine reg_take (i := 46) (oi := _) (v := ?_) rfl (by kernel_rfl) (by kernel_rfl) (by kernel_rfl) (fun _ _ _ h => h) (by rfl) ?_ (by assumption) ?_
                    rotate_left
                    · intro w hSw; (try dsimp only at hSw); replace x0 := bel_cell hSw x0; replace x1 := bel_cell hSw x1; replace x2 := bel_cell hSw x2; replace c0 := bel_cell hSw c0; replace c1 := bel_cell hSw c1; replace c2 := bel_cell hSw c2; replace zq := Nat.lt_of_lt_of_le zq hSw.size; replace zg := Nat.lt_of_lt_of_le zg hSw.size; go_simp; try with_reducible rfl
                    (try simp only [Act.put, List.setIfInBounds_toArray, List.set_cons_zero, List.set_cons_succ])
                    refine wpAnyH_done (by kernel_rfl) ?_ _
                    refine NoPanic.normal ?_
                    have HF := Lib.hid ((HRI.out.below hB2 hHeld))
                    clear hHeld x0 x1 x2 c0 c1 c2 zq zg
                    go_wp2_with (fail)
                    go_roundw
                    case rel => exact ⟨i + 1, _, L, f, m, by omega, by go_num, HF.out⟩
                    case measure => simp [intOf]; omega
                  exact AllReadyH.nil
                exact AllReadyH.nil
              exact AllReadyH.nil
    · have hlt' : ¬ i < N ∨ (i < N ∧ ¬ i < 120) := by omega
      have BEL := Lib.hid hri.bel
      clear hri
      rcases hlt' with h1 | ⟨h1, h2⟩
      all_goals
        go_wp2_with (fail)
        refine (sure_walk _).mono ?_
        rintro v w4 ⟨rfl, B4⟩
        have bel4 := BEL.out.trans (B4.mono hBw)
        go_wp2
        go_ret
        exact ⟨rfl, by rw [hB]; exact bel4⟩
end Go.Proofs.YtfbbkeekpkbjhaaDoor
