/- StateRuns of any results, walked. -/
import Derived.Test.YtimibkjjcnpkjaaAid
import Derived.Test.YtimibkjjcnpkjaaRef
import Derived.Deep.RegionWith
import Derived.Deep.RegionHeld3
namespace Go.Proofs.Ytimibkjjcnpkjaa
open Go.RowKit
theorem cell_drew {w : World} {p : Addr} {v : Value} (h : w.cell? p = some v) : w.drew.cell? p = some v := by simpa using h
theorem cell_al {w : World} {p : Addr} {v : Value} (o : Obj) (h : w.cell? p = some v) : (w.alloc o).cell? p = some v := (World.cell?_alloc_lt _ _ p (World.block_lt_of_cell? w p h)).trans h
theorem cell_bel {w w1 : World} {p : Addr} {v : Value} (hb : Below w.heap.size w w1) (h : w.cell? p = some v) : w1.cell? p = some v := (hb.cell (World.block_lt_of_cell? w p h)).trans h
theorem result_agg (s : Int) (h : Bool) (a l t m st tm : Int) (w : World) : Calls Try.prog 8 #[.agg #[.int .i64 s, .bool h, .int .i64 a, .int .i64 l, .int .i64 t], .int .i64 m, .int .i64 st, .int .i64 tm] w
    fun e w' => (e = .returned (.tuple #[.agg #[.int .i64 (resF ⟨s, h, a, l, t⟩ m st tm).1.s, .bool (resF ⟨s, h, a, l, t⟩ m st tm).1.h, .int .i64 (resF ⟨s, h, a, l, t⟩ m st tm).1.a, .int .i64 (resF ⟨s, h, a, l, t⟩ m st tm).1.l, .int .i64 (resF ⟨s, h, a, l, t⟩ m st tm).1.t], .int .i64 (resF ⟨s, h, a, l, t⟩ m st tm).2])) ∧ Below w.heap.size w w' := result_walk s h a l t m st tm w
theorem new_cells {w w1 : World} {cs : Array Value} {t : TypeId} (hb : Below (w.alloc (.cells cs t)).drew.heap.size (w.alloc (.cells cs t)).drew w1) (i : Nat) : w1.cell? ⟨w.heap.size, i, none⟩ = cs[i]? ∧ w1.frozen? ⟨w.heap.size, i, none⟩ = false :=
  ⟨((bcell hb).1 _ _ (by simp)).trans (by simp), ((bcell hb).2 _ _ (by simp)).trans (by simp)⟩
theorem below_dl {B : Nat} {w w1 : World} (h : Below B w.drew w1) : Below B w w1 := ⟨h.os, h.tape, h.output, h.size, h.block⟩
theorem below_undrew {B : Nat} {w w1 : World} (h : Below B w w1.drew) : Below B w w1 := ⟨h.os, h.tape, h.output, h.size, h.block⟩
theorem rresult_agg (s : Int) (h : Bool) (a l t m st tm : Int) (w : World) : Calls Try.prog 9 #[.agg #[.int .i64 s, .bool h, .int .i64 a, .int .i64 l, .int .i64 t], .int .i64 m, .int .i64 st, .int .i64 tm] w
    fun e w' => (e = .returned (.tuple #[.agg #[.int .i64 (resF ⟨s, h, a, l, t⟩ m st tm).1.s, .bool (resF ⟨s, h, a, l, t⟩ m st tm).1.h, .int .i64 (resF ⟨s, h, a, l, t⟩ m st tm).1.a, .int .i64 (resF ⟨s, h, a, l, t⟩ m st tm).1.l, .int .i64 (resF ⟨s, h, a, l, t⟩ m st tm).1.t], .int .i64 (resF ⟨s, h, a, l, t⟩ m st tm).2])) ∧ Below w.heap.size w w' := rresult_walk s h a l t m st tm w
def S7 (wr : World) (g : Nat) (p q : Addr) (a b c d e u v : Value) (w' : World) : Prop :=
  g < w'.heap.size ∧ w'.cell? ⟨g, 0, none⟩ = some a ∧ w'.cell? ⟨g, 1, none⟩ = some b ∧ w'.cell? ⟨g, 2, none⟩ = some c ∧ w'.cell? ⟨g, 3, none⟩ = some d ∧ w'.cell? ⟨g, 4, none⟩ = some e ∧ w'.cell? p = some u ∧ w'.cell? q = some v ∧ Below wr.heap.size wr w'
section
variable {wr wx w' : World} {g : Nat} {t : TypeId} {a b c d e u v : Value} {p q : Addr}
theorem keep7 (h : Blk wr g t #[a, b, c, d, e]) (e0 : wr.cell? p = some u) (e1 : wr.cell? q = some v) (hb : Below wr.heap.size wr w') : S7 wr g p q a b c d e u v w' :=
  have k := h.below hb
  ⟨k.lt, k.cell 0, k.cell 1, k.cell 2, k.cell 3, k.cell 4, cell_bel hb e0, cell_bel hb e1, hb⟩
theorem s7_start (h : Blk wr g t #[a, b, c, d, e]) (e0 : wr.cell? p = some u) (e1 : wr.cell? q = some v) : S7 wr g p q a b c d e u v wr.drew := keep7 h e0 e1 (below_drewN (Below.refl _ _) 1)
theorem s7_call (h : Blk wr g t #[a, b, c, d, e]) (e0 : wr.cell? p = some u) (e1 : wr.cell? q = some v) (hs : S7 wr g p q a b c d e u v wx) (hb : Below wx.heap.size wx w') : S7 wr g p q a b c d e u v w' := keep7 h e0 e1 (below_trans hs.2.2.2.2.2.2.2.2 hb)
theorem s7_al (h : Blk wr g t #[a, b, c, d, e]) (e0 : wr.cell? p = some u) (e1 : wr.cell? q = some v) (hs : S7 wr g p q a b c d e u v wx) (o : Obj) : S7 wr g p q a b c d e u v (wx.alloc o) := keep7 h e0 e1 (below_al hs.2.2.2.2.2.2.2.2 o)
theorem s7_ald (h : Blk wr g t #[a, b, c, d, e]) (e0 : wr.cell? p = some u) (e1 : wr.cell? q = some v) (hs : S7 wr g p q a b c d e u v wx.drew) (o : Obj) : S7 wr g p q a b c d e u v (wx.alloc o).drew := keep7 h e0 e1 (below_drewN (below_al (below_undrew hs.2.2.2.2.2.2.2.2) o) 1)
theorem s7_put (h : Blk wr g t #[a, b, c, d, e]) (e0 : wr.cell? p = some u) (e1 : wr.cell? q = some v) (hs : S7 wr g p q a b c d e u v wx) {n : Nat} (hn : wr.heap.size ≤ n) {a' b' c' d' e' : Value} : S7 wr g p q a b c d e u v (put5 wx n a' b' c' d' e') := keep7 h e0 e1 (below_put5 hs.2.2.2.2.2.2.2.2 hn)
end
/-- A slice of pairs of ints that is only read. -/
def Pairs (w : World) (A : Option Addr) (n : Nat) (xs ys : Nat → Int) : Prop :=
  n ≤ 9223372036854775807 ∧ (0 < n → ∃ ad, A = some ad ∧ ad.block < w.heap.size ∧ ∀ j, j < n → w.cell? (ad.add (j * 2)) = some (.int .i64 (xs j)) ∧ w.cell? ⟨(ad.add (j * 2)).block, (ad.add (j * 2)).off + 1, none⟩ = some (.int .i64 (ys j)))
theorem Pairs.below {w w1 : World} {A : Option Addr} {n : Nat} {xs ys : Nat → Int} (h : Pairs w A n xs ys) (hb : Below w.heap.size w w1) : Pairs w1 A n xs ys := by
  obtain ⟨h1, h2⟩ := h
  refine ⟨h1, fun hn => ?_⟩
  obtain ⟨ad, e, hl, hc⟩ := h2 hn
  exact ⟨ad, e, Nat.lt_of_lt_of_le hl hb.size, fun j hj => ⟨(hb.cell (p := ad.add (j * 2)) (by rw [add_block]; exact hl)).trans (hc j hj).1, ((bcell hb).1 _ _ (by rw [add_block]; exact hl)).trans (hc j hj).2⟩⟩
set_option maxRecDepth 100000 in
set_option maxHeartbeats 8000000 in
theorem runs_walk (most : Int) (A : Option Addr) (n cap : Nat) (xs ys : Nat → Int) (w : World) (hi : Pairs w A n xs ys) :
    Calls Try.prog 3 #[.int .i64 most, .slice A n cap] w fun e w' => e = .returned (.bool true) ∧ Below w.heap.size w w' := by
  obtain ⟨m1, m2⟩ := u64m_bd most 100 (by decide)
  have hn := hi.1
  have HI := Lib.hid hi; clear hi
  go_enter Try.func3, Try.ntmps3
  go_upto_region 2 with (fail)
  generalize hm : 1 + (IntKind.u64.wrap most).tmod 100 = m at *
  clear hm
  go_wp2_with (fail)
  refine (start_walk _).mono ?_
  rintro e w1 ⟨rfl, hb1⟩
  have p1 := (Blk.new w1 25 #[.int .i64 0, .bool true, .int .i64 1, .int .i64 0, .int .i64 0]).alloc (.cells #[.int .i64 0, .bool true, .int .i64 1, .int .i64 0, .int .i64 0] 27)
  have p2 := Blk.new1 w1 (.cells #[.int .i64 0, .bool true, .int .i64 1, .int .i64 0, .int .i64 0] 25) 27 #[.int .i64 0, .bool true, .int .i64 1, .int .i64 0, .int .i64 0]
  have B1 := below_al (below_al hb1 (.cells #[.int .i64 0, .bool true, .int .i64 1, .int .i64 0, .int .i64 0] 25)) (.cells #[.int .i64 0, .bool true, .int .i64 1, .int .i64 0, .int .i64 0] 27)
  have hg : w.heap.size ≤ w1.heap.size := hb1.size
  have P1 := Lib.hid p1; have P2 := Lib.hid p2; clear p1 p2
  go_wp2_with (fail)
  generalize hW : (w1.alloc (Obj.cells #[Value.int IntKind.i64 0, Value.bool true, Value.int IntKind.i64 1, Value.int IntKind.i64 0, Value.int IntKind.i64 0] 25)).alloc (Obj.cells #[Value.int IntKind.i64 0, Value.bool true, Value.int IntKind.i64 1, Value.int IntKind.i64 0, Value.int IntKind.i64 0] 27) = W at *
  generalize w1.heap.size = g at *
  clear hW hb1
  go_loopw [8, 9, 10, 11, 12] (fun i _ _ _ _ wr => ∃ (k : Nat) (S : St), k ≤ n ∧ i = .int .i64 k ∧ Blk wr g 25 #[.int .i64 S.s, .bool S.h, .int .i64 S.a, .int .i64 S.l, .int .i64 S.t] ∧ Blk wr (g + 1) 27 #[.int .i64 S.s, .bool S.h, .int .i64 S.a, .int .i64 S.l, .int .i64 S.t] ∧ Below w.heap.size w wr) (fun i _ _ _ _ _ => n - (intOf i).toNat)
  case atStart => exact ⟨0, ⟨0, true, 1, 0, 0⟩, by omega, rfl, P1.out, P2.out, B1⟩
  case round =>
    obtain ⟨k, ⟨s, h, a, l, t⟩, hk, rfl, hblk, hblk', hbel⟩ := hrel
    dsimp only at hblk hblk'
    by_cases hlt : k < n
    · by_cases h200 : k < 200
      · obtain ⟨ad, rfl, hl, hcell⟩ := (HI.out.below hbel).2 (by omega)
        obtain ⟨e0, e1⟩ := hcell k hlt
        have l1 : (ad.add (k * 2)).block < wr.heap.size := by rw [add_block]; exact hl
        clear hcell
        generalize xs k = x at *
        generalize ys k = y at *
        have k0 : (0 : Int) ≤ k := by omega
        have HB := Lib.hid hblk
        have HB' := Lib.hid hblk'
        obtain ⟨⟨c0, c1, c2, c3, c4⟩, ⟨f0, f1, f2, f3, f4⟩, zl⟩ := blk5 hblk
        clear hblk hblk'
        go_upto_region 7 with (fail)
        have ZS : Below wr.heap.size wr wr := Below.refl _ _
        go_cut [9, 10] (fun s9 s10 wx => ∃ q, s9 = .pointer (some ⟨q, 0, none⟩) ∧ s10 = .int .i64 (resF ⟨s, h, a, l, t⟩ m x y).2 ∧ wr.heap.size ≤ q ∧ Blk wx q 25 #[.int .i64 (resF ⟨s, h, a, l, t⟩ m x y).1.s, .bool (resF ⟨s, h, a, l, t⟩ m x y).1.h, .int .i64 (resF ⟨s, h, a, l, t⟩ m x y).1.a, .int .i64 (resF ⟨s, h, a, l, t⟩ m x y).1.l, .int .i64 (resF ⟨s, h, a, l, t⟩ m x y).1.t] ∧ Below wr.heap.size wr wx)
        case first =>
          have zs := World.block_lt_of_cell? wr _ c0
          go_region_with (go_at_call 8; refine (result_agg s h a l t _ x y _).mono ?_; rintro e w' ⟨rfl, hb⟩; (try (obtain ⟨q0, p0⟩ := new_cells hb 0; obtain ⟨q1, p1⟩ := new_cells hb 1; obtain ⟨q2, p2⟩ := new_cells hb 2; obtain ⟨q3, p3⟩ := new_cells hb 3; obtain ⟨q4, p4⟩ := new_cells hb 4; simp at q0 q1 q2 q3 q4)))
          all_goals (go_wp2_with (fail); go_meet)
          all_goals (generalize resF ⟨s, h, a, l, t⟩ m x y = R at *)
          all_goals first
            | exact ⟨_, rfl, rfl, hb.size, Blk.new _ _ _, below_al (below_dl hb) _⟩
            | exact ⟨_, rfl, rfl, Nat.le_refl _, blk_put5 (Blk.below (Blk.drew (Blk.new wr 25 #[.int .i64 0, .bool false, .int .i64 0, .int .i64 0, .int .i64 0])) hb), below_put5 (below_step (Below.refl _ _) (below_dl hb)) (Nat.le_refl _)⟩
        case rest =>
          obtain ⟨q, rfl, rfl, hq, bq, hx⟩ := hcut
          have glr := HB'.out.lt
          have HQ := Lib.hid bq; clear bq
          have B6 := Lib.hid (HB.out.below hx)
          have B7 := Lib.hid (HB'.out.below hx)
          have hbel2 := below_trans hbel hx
          have e0' := cell_bel hx e0
          have e1' := cell_bel hx e1
          have l1' : (ad.add (k * 2)).block < wc.heap.size := Nat.lt_of_lt_of_le l1 hx.size
          have sz := hx.size
          clear c0 c1 c2 c3 c4 f0 f1 f2 f3 f4 zl e0 e1 l1 hx HB HB' hbel ZS
          obtain ⟨⟨c0, c1, c2, c3, c4⟩, ⟨f0, f1, f2, f3, f4⟩, zl⟩ := blk5 B7.out
          generalize hws : wr.heap.size = ws at *
          clear hws
          go_upto_region 8 with (fail)
          go_cut [11, 12] (fun s9 s10 wx => ∃ q, s9 = .pointer (some ⟨q, 0, none⟩) ∧ s10 = .int .i64 (resF ⟨s, h, a, l, t⟩ m x y).2 ∧ wc.heap.size ≤ q ∧ Blk wx q 27 #[.int .i64 (resF ⟨s, h, a, l, t⟩ m x y).1.s, .bool (resF ⟨s, h, a, l, t⟩ m x y).1.h, .int .i64 (resF ⟨s, h, a, l, t⟩ m x y).1.a, .int .i64 (resF ⟨s, h, a, l, t⟩ m x y).1.l, .int .i64 (resF ⟨s, h, a, l, t⟩ m x y).1.t] ∧ Below wc.heap.size wc wx)
          case first =>
            have zs := World.block_lt_of_cell? wc _ c0
            go_region_with (go_at_call 9; refine (rresult_agg s h a l t _ x y _).mono ?_; rintro e w' ⟨rfl, hb⟩; (try (obtain ⟨q0, p0⟩ := new_cells hb 0; obtain ⟨q1, p1⟩ := new_cells hb 1; obtain ⟨q2, p2⟩ := new_cells hb 2; obtain ⟨q3, p3⟩ := new_cells hb 3; obtain ⟨q4, p4⟩ := new_cells hb 4; simp at q0 q1 q2 q3 q4)))
            all_goals (go_wp2_with (fail); go_meet)
            all_goals (generalize resF ⟨s, h, a, l, t⟩ m x y = R at *)
            all_goals first
              | exact ⟨_, rfl, rfl, hb.size, Blk.new _ _ _, below_al (below_dl hb) _⟩
              | exact ⟨_, rfl, rfl, Nat.le_refl _, blk_put5 (Blk.below (Blk.drew (Blk.new wc 27 #[.int .i64 0, .bool false, .int .i64 0, .int .i64 0, .int .i64 0])) hb), below_put5 (below_step (Below.refl _ _) (below_dl hb)) (Nat.le_refl _)⟩
          case rest =>
            obtain ⟨q', rfl, rfl, hq', bq', hx⟩ := hcut
            have b6 := B6.out.below hx
            have b7 := B7.out.below hx
            have bq := HQ.out.below hx
            have hbel3 := below_trans hbel2 hx
            have hql := Nat.lt_of_lt_of_le HQ.out.lt hx.size
            have sz2 := hx.size
            clear c0 c1 c2 c3 c4 f0 f1 f2 f3 f4 zl e0' e1' l1' B6 B7 hbel2 hx
            go_upto_region 9 with (fail)
            have gl := b6.lt
            have gl7 := b7.lt
            have gq : g < q := by omega
            have gq' : g + 1 < q' := by omega
            have hgw := hg
            generalize resF ⟨s, h, a, l, t⟩ m x y = R at *
            obtain ⟨⟨s', h', a', l', t'⟩, what⟩ := R
            dsimp only at b6 b7 bq bq'
            have BQ' := Lib.hid bq'; have BQ := Lib.hid bq; have B6 := Lib.hid b6; have B7 := Lib.hid b7; have BEL := Lib.hid hbel3
            obtain ⟨⟨c0, c1, c2, c3, c4⟩, ⟨f0, f1, f2, f3, f4⟩, zl⟩ := blk5 b6
            obtain ⟨⟨cc0, cc1, cc2, cc3, cc4⟩, ⟨ff0, ff1, ff2, ff3, ff4⟩, zzl⟩ := blk5 b7
            obtain ⟨⟨d0, d1, d2, d3, d4⟩, ⟨fd0, fd1, fd2, fd3, fd4⟩, zd⟩ := blk5 bq
            obtain ⟨⟨dd0, dd1, dd2, dd3, dd4⟩, ⟨fdd0, fdd1, fdd2, fdd3, fdd4⟩, zdd⟩ := blk5 bq'
            clear b6 b7 bq bq' hbel3 HQ
            have n1 : q ≠ g := by omega
            have n2 : q ≠ g + 1 := by omega
            have n3 : q' ≠ g := by omega
            have n4 : q' ≠ g + 1 := by omega
            go_cut [] (fun wx => Blk wx g 25 #[.int .i64 s', .bool h', .int .i64 a', .int .i64 l', .int .i64 t'] ∧ Blk wx (g + 1) 27 #[.int .i64 s', .bool h', .int .i64 a', .int .i64 l', .int .i64 t'] ∧ Below w.heap.size w wx)
            case first =>
              go_region
              all_goals (go_wp2_with (fail); go_meet)
              have x1 : Blk (put5 (put5 wc g (.int .i64 s') (.bool h') (.int .i64 a') (.int .i64 l') (.int .i64 t')) (g + 1) (.int .i64 s') (.bool h') (.int .i64 a') (.int .i64 l') (.int .i64 t')) g 25 #[.int .i64 s', .bool h', .int .i64 a', .int .i64 l', .int .i64 t'] := blk_far5 (blk_put5 B6.out) (by omega)
              have x2 : Blk (put5 (put5 wc g (.int .i64 s') (.bool h') (.int .i64 a') (.int .i64 l') (.int .i64 t')) (g + 1) (.int .i64 s') (.bool h') (.int .i64 a') (.int .i64 l') (.int .i64 t')) (g + 1) 27 #[.int .i64 s', .bool h', .int .i64 a', .int .i64 l', .int .i64 t'] := blk_put5 (blk_far5 B7.out (by omega))
              have x3 : Below w.heap.size w (put5 (put5 wc g (.int .i64 s') (.bool h') (.int .i64 a') (.int .i64 l') (.int .i64 t')) (g + 1) (.int .i64 s') (.bool h') (.int .i64 a') (.int .i64 l') (.int .i64 t')) := below_put5 (below_put5 BEL.out hg) (by omega)
              exact ⟨x1.drew, x2.drew, below_drewN x3 1⟩
            case rest =>
              obtain ⟨b6', b7', hbel4⟩ := hcut
              clear c0 c1 c2 c3 c4 f0 f1 f2 f3 f4 zl cc0 cc1 cc2 cc3 cc4 ff0 ff1 ff2 ff3 ff4 zzl d0 d1 d2 d3 d4 fd0 fd1 fd2 fd3 fd4 zd dd0 dd1 dd2 dd3 dd4 fdd0 fdd1 fdd2 fdd3 fdd4 zdd B6 B7 BQ BQ' BEL
              have B6 := Lib.hid b6'; have B7 := Lib.hid b7'
              obtain ⟨⟨c0, c1, c2, c3, c4⟩, ⟨f0, f1, f2, f3, f4⟩, zl⟩ := blk5 b6'
              obtain ⟨⟨cc0, cc1, cc2, cc3, cc4⟩, ⟨ff0, ff1, ff2, ff3, ff4⟩, zzl⟩ := blk5 b7'
              clear b6' b7'
              go_wp2
              all_goals go_roundw
              case rel => exact ⟨k + 1, ⟨s', h', a', l', t'⟩, by omega, by go_num, B6.out, B7.out, hbel4⟩
              case measure => simp [intOf]; omega
      · go_wp2_with (fail)
        refine (sure_walk _).mono ?_
        rintro e w5 ⟨rfl, hb5⟩
        go_wp2
        go_ret
        exact ⟨rfl, below_trans hbel hb5⟩
    · go_wp2_with (fail)
      refine (sure_walk _).mono ?_
      rintro e w5 ⟨rfl, hb5⟩
      go_wp2
      go_ret
      exact ⟨rfl, below_trans hbel hb5⟩
end Go.Proofs.Ytimibkjjcnpkjaa
