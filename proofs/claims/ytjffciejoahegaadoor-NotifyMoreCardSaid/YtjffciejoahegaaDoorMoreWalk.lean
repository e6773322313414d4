/- The law NotifyMore, walked. -/
import Derived.Test.YtjffciejoahegaaDoorSure
import Derived.Test.YtjffciejoahegaaDoorMoreMath
import Derived.Deep.RegionHeld3
import Derived.Deep.CutRange
import Derived.Deep.CutBlock
namespace Go.Proofs.YtjffciejoahegaaDoor
open Go.RowKit
theorem words_far {w : World} (h : WordsOk w) {p : Addr} (hp : (0 : Nat) ≠ p.block) (u : Value) : WordsOk (w.setCell p u) := by
  have k : ∀ i, (w.setCell p u).cell? ⟨0, i, none⟩ = w.cell? ⟨0, i, none⟩ := fun i => by
    have e := Below.heap_setCell w p u 0 hp
    simp [World.cell?, e]
  exact ⟨(k _).trans h.1, (k _).trans h.2.1, (k _).trans h.2.2.1, (k _).trans h.2.2.2.1, (k _).trans h.2.2.2.2⟩
theorem Blk.new3 (w : World) (o o2 o3 : Obj) (t : TypeId) (cs : Array Value) : Blk ((((w.alloc o).alloc o2).alloc o3).alloc (.cells cs t)) (w.heap.size + 1 + 1 + 1) t cs := by
  have h := heap_alloc_new (((w.alloc o).alloc o2).alloc o3) (.cells cs t); rw [size_alloc, size_alloc, size_alloc] at h; exact h
theorem blk3 {w : World} {g : Nat} {t : TypeId} {a b c : Value} (h : Blk w g t #[a, b, c]) :
    (w.cell? ⟨g, 0, none⟩ = some a ∧ w.cell? ⟨g, 1, none⟩ = some b ∧ w.cell? ⟨g, 2, none⟩ = some c) ∧ (w.frozen? ⟨g, 0, none⟩ = false ∧ w.frozen? ⟨g, 1, none⟩ = false ∧ w.frozen? ⟨g, 2, none⟩ = false) ∧ g < w.heap.size :=
  ⟨⟨h.cell 0, h.cell 1, h.cell 2⟩, ⟨h.frozen 0, h.frozen 1, h.frozen 2⟩, h.lt⟩
/-- What the walk of NotifyMore keeps: the case, the person, the words. -/
def Kept (w : World) (g : Nat) (c : Array Value) (p : Array Value) (wx : World) : Prop := Blk wx (g + 1 + 1) 24 c ∧ Blk wx (g + 1) 32 p ∧ WordsOk wx ∧ Below w.heap.size w wx
theorem Kept.below {w wx w' : World} {g : Nat} {c p : Array Value} (h : Kept w g c p wx) (hb : Below wx.heap.size wx w') : Kept w g c p w' := ⟨h.1.below hb, h.2.1.below hb, h.2.2.1.below hb, below_trans h.2.2.2 hb⟩
theorem Kept.alloc {w wx : World} {g : Nat} {c p : Array Value} (h : Kept w g c p wx) (o : Obj) : Kept w g c p (wx.alloc o) := ⟨h.1.alloc o, h.2.1.alloc o, h.2.2.1.alloc o, below_al h.2.2.2 o⟩
theorem Kept.far {w wx : World} {g : Nat} {c p : Array Value} (h : Kept w g c p wx) (hg : w.heap.size = g) (o : Nat) (u : Value) : Kept w g c p (wx.setCell ⟨g + 1 + 1 + 1, o, none⟩ u) :=
  ⟨h.1.far (by simp) u, h.2.1.far (by simp) u, words_far h.2.2.1 (by simp) u, h.2.2.2.setCell (by simp; omega) u⟩
def SM (w : World) (g1 g2 : Nat) (x0 x1 x2 x3 x4 x5 x6 x7 x8 x9 y0 y1 y2 y3 y4 y5 y6 y7 y8 y9 : Value) (w' : World) : Prop :=
  Blk w' g1 24 #[x0, x1, x2, x3, x4, x5, x6, x7, x8, x9] ∧ Blk w' g2 24 #[y0, y1, y2, y3, y4, y5, y6, y7, y8, y9] ∧ WordsOk w' ∧ Below w.heap.size w w' ∧ g1 < w'.heap.size ∧ g2 < w'.heap.size ∧ w'.cell? ⟨g1, 0, none⟩ = some (x0) ∧ w'.cell? ⟨g1, 1, none⟩ = some (x1) ∧ w'.cell? ⟨g1, 2, none⟩ = some (x2) ∧ w'.cell? ⟨g1, 3, none⟩ = some (x3) ∧ w'.cell? ⟨g1, 4, none⟩ = some (x4) ∧ w'.cell? ⟨g1, 5, none⟩ = some (x5) ∧ w'.cell? ⟨g1, 6, none⟩ = some (x6) ∧ w'.cell? ⟨g1, 7, none⟩ = some (x7) ∧ w'.cell? ⟨g1, 8, none⟩ = some (x8) ∧ w'.cell? ⟨g1, 9, none⟩ = some (x9) ∧ w'.cell? ⟨g2, 0, none⟩ = some (y0) ∧ w'.cell? ⟨g2, 1, none⟩ = some (y1)
section
variable {w W w' : World} {g1 g2 : Nat} {x0 x1 x2 x3 x4 x5 x6 x7 x8 x9 y0 y1 y2 y3 y4 y5 y6 y7 y8 y9 : Value}
theorem sm_mk (h : Blk w' g1 24 #[x0, x1, x2, x3, x4, x5, x6, x7, x8, x9]) (k : Blk w' g2 24 #[y0, y1, y2, y3, y4, y5, y6, y7, y8, y9]) (hw : WordsOk w') (hb : Below w.heap.size w w') : SM w g1 g2 x0 x1 x2 x3 x4 x5 x6 x7 x8 x9 y0 y1 y2 y3 y4 y5 y6 y7 y8 y9 w' :=
  ⟨h, k, hw, hb, h.lt, k.lt, h.cell 0, h.cell 1, h.cell 2, h.cell 3, h.cell 4, h.cell 5, h.cell 6, h.cell 7, h.cell 8, h.cell 9, k.cell 0, k.cell 1⟩
theorem sm_below (hb : Below W.heap.size W w') (h : SM w g1 g2 x0 x1 x2 x3 x4 x5 x6 x7 x8 x9 y0 y1 y2 y3 y4 y5 y6 y7 y8 y9 W) : SM w g1 g2 x0 x1 x2 x3 x4 x5 x6 x7 x8 x9 y0 y1 y2 y3 y4 y5 y6 y7 y8 y9 w' := sm_mk (h.1.below hb) (h.2.1.below hb) (h.2.2.1.below hb) (below_trans h.2.2.2.1 hb)
theorem sm_drew (h : SM w g1 g2 x0 x1 x2 x3 x4 x5 x6 x7 x8 x9 y0 y1 y2 y3 y4 y5 y6 y7 y8 y9 W) : SM w g1 g2 x0 x1 x2 x3 x4 x5 x6 x7 x8 x9 y0 y1 y2 y3 y4 y5 y6 y7 y8 y9 W.drew := sm_mk h.1.drew h.2.1.drew h.2.2.1.drew (below_drewN h.2.2.2.1 1)
end
set_option maxRecDepth 100000 in
set_option maxHeartbeats 8000000 in
theorem more_walk (k s op fo : Int) (en ti bl dn fl ac : Bool) (pe pt : Bool) (po x : Int) (w : World) (hw : WordsOk w) :
    Calls Tryd.prog 5 #[.agg #[.int .i64 k, .int .i64 s, .bool en, .bool ti, .bool bl, .bool dn, .bool fl, .bool ac, .int .i64 op, .int .i64 fo], .agg #[.bool pe, .bool pt, .int .i64 po], .int .i64 x] w fun e w' => e = .returned (.bool true) ∧ Below w.heap.size w w' := by
  obtain ⟨u1, u2⟩ := u64m_bd x 8 (by decide)
  obtain ⟨u3, u4⟩ := u64m_bd x 5 (by decide)
  obtain ⟨u5, u6⟩ := u64m_bd ((IntKind.u64.wrap x).tdiv 8) 5 (by decide)
  obtain ⟨u7, u8⟩ := u64m_bd ((IntKind.u64.wrap x).tdiv 8) 8 (by decide)
  have v4 : (IntKind.u64.wrap x).tmod 5 ≤ 64 := by omega
  have v6 : (IntKind.u64.wrap ((IntKind.u64.wrap x).tdiv 8)).tmod 5 ≤ 64 := by omega
  have v8 : (IntKind.u64.wrap ((IntKind.u64.wrap x).tdiv 8)).tmod 8 ≤ 64 := by omega
  have q4 := ((Blk.new1 w (.cells #[.int .i64 k, .int .i64 s, .bool en, .bool ti, .bool bl, .bool dn, .bool fl, .bool ac, .int .i64 op, .int .i64 fo] 23) 32 #[.bool pe, .bool pt, .int .i64 po]).alloc (.cells #[.int .i64 k, .int .i64 s, .bool en, .bool ti, .bool bl, .bool dn, .bool fl, .bool ac, .int .i64 op, .int .i64 fo] 24)).alloc (.cells #[.int .i64 k, .int .i64 s, .bool en, .bool ti, .bool bl, .bool dn, .bool fl, .bool ac, .int .i64 op, .int .i64 fo] 24)
  have q7 := (Blk.new2 w (.cells #[.int .i64 k, .int .i64 s, .bool en, .bool ti, .bool bl, .bool dn, .bool fl, .bool ac, .int .i64 op, .int .i64 fo] 23) (.cells #[.bool pe, .bool pt, .int .i64 po] 32) 24 #[.int .i64 k, .int .i64 s, .bool en, .bool ti, .bool bl, .bool dn, .bool fl, .bool ac, .int .i64 op, .int .i64 fo]).alloc (.cells #[.int .i64 k, .int .i64 s, .bool en, .bool ti, .bool bl, .bool dn, .bool fl, .bool ac, .int .i64 op, .int .i64 fo] 24)
  have q8 := Blk.new3 w (.cells #[.int .i64 k, .int .i64 s, .bool en, .bool ti, .bool bl, .bool dn, .bool fl, .bool ac, .int .i64 op, .int .i64 fo] 23) (.cells #[.bool pe, .bool pt, .int .i64 po] 32) (.cells #[.int .i64 k, .int .i64 s, .bool en, .bool ti, .bool bl, .bool dn, .bool fl, .bool ac, .int .i64 op, .int .i64 fo] 24) 24 #[.int .i64 k, .int .i64 s, .bool en, .bool ti, .bool bl, .bool dn, .bool fl, .bool ac, .int .i64 op, .int .i64 fo]
  have qw := (((hw.alloc (.cells #[.int .i64 k, .int .i64 s, .bool en, .bool ti, .bool bl, .bool dn, .bool fl, .bool ac, .int .i64 op, .int .i64 fo] 23)).alloc (.cells #[.bool pe, .bool pt, .int .i64 po] 32)).alloc (.cells #[.int .i64 k, .int .i64 s, .bool en, .bool ti, .bool bl, .bool dn, .bool fl, .bool ac, .int .i64 op, .int .i64 fo] 24)).alloc (.cells #[.int .i64 k, .int .i64 s, .bool en, .bool ti, .bool bl, .bool dn, .bool fl, .bool ac, .int .i64 op, .int .i64 fo] 24)
  have B0 := below_al (below_al (below_al (below_al (Below.refl w.heap.size w) (.cells #[.int .i64 k, .int .i64 s, .bool en, .bool ti, .bool bl, .bool dn, .bool fl, .bool ac, .int .i64 op, .int .i64 fo] 23)) (.cells #[.bool pe, .bool pt, .int .i64 po] 32)) (.cells #[.int .i64 k, .int .i64 s, .bool en, .bool ti, .bool bl, .bool dn, .bool fl, .bool ac, .int .i64 op, .int .i64 fo] 24)) (.cells #[.int .i64 k, .int .i64 s, .bool en, .bool ti, .bool bl, .bool dn, .bool fl, .bool ac, .int .i64 op, .int .i64 fo] 24)
  have K0 : Kept w w.heap.size #[.int .i64 k, .int .i64 s, .bool en, .bool ti, .bool bl, .bool dn, .bool fl, .bool ac, .int .i64 op, .int .i64 fo] #[.bool pe, .bool pt, .int .i64 po] _ := ⟨q7, q4, qw, B0⟩
  have HK := Lib.hid K0; have Q8 := Lib.hid q8
  clear q4 q7 q8 qw B0 K0 hw
  go_enter Tryd.func5, Tryd.ntmps5
  go_upto_block 0 with (fail)
  generalize hm : (IntKind.u64.wrap x).tmod 8 = m at *
  clear hm
  generalize (((w.alloc (Obj.cells #[Value.int IntKind.i64 k, Value.int IntKind.i64 s, Value.bool en, Value.bool ti, Value.bool bl, Value.bool dn, Value.bool fl, Value.bool ac, Value.int IntKind.i64 op, Value.int IntKind.i64 fo] 23)).alloc (Obj.cells #[Value.bool pe, Value.bool pt, Value.int IntKind.i64 po] 32)).alloc (Obj.cells #[Value.int IntKind.i64 k, Value.int IntKind.i64 s, Value.bool en, Value.bool ti, Value.bool bl, Value.bool dn, Value.bool fl, Value.bool ac, Value.int IntKind.i64 op, Value.int IntKind.i64 fo] 24)).alloc (Obj.cells #[Value.int IntKind.i64 k, Value.int IntKind.i64 s, Value.bool en, Value.bool ti, Value.bool bl, Value.bool dn, Value.bool fl, Value.bool ac, Value.int IntKind.i64 op, Value.int IntKind.i64 fo] 24) = W at *
  generalize hgg : w.heap.size = g at *
  have b8 := Q8.out
  obtain ⟨⟨c0, c1, c2, c3, c4, c5, c6, c7, c8, c9⟩, ⟨f0, f1, f2, f3, f4, f5, f6, f7, f8, f9⟩, zl⟩ := cells10 b8
  go_cut [] (fun wx => ∃ c' : Cs, Rel ⟨k, s, en, ti, bl, dn, fl, ac, op, fo⟩ c' ∧ Blk wx (g + 1 + 1 + 1) 24 c'.cells ∧ Kept w g #[.int .i64 k, .int .i64 s, .bool en, .bool ti, .bool bl, .bool dn, .bool fl, .bool ac, .int .i64 op, .int .i64 fo] #[.bool pe, .bool pt, .int .i64 po] wx)
  case first =>
    rcases (by omega : m = 0 ∨ m = 1 ∨ m = 2 ∨ m = 3 ∨ m = 4 ∨ m = 5 ∨ m = 6 ∨ m = 7) with rfl | rfl | rfl | rfl | rfl | rfl | rfl | rfl
    · go_wp2
      go_meet
      exact ⟨_, rel_en k s op fo en ti bl dn fl ac, b8.put 2 _ rfl, HK.out.far hgg _ _⟩
    · go_wp2
      go_meet
      exact ⟨_, rel_ti k s op fo en ti bl dn fl ac, b8.put 3 _ rfl, HK.out.far hgg _ _⟩
    · go_wp2
      go_meet
      exact ⟨_, rel_bl k s op fo en ti bl dn fl ac, b8.put 4 _ rfl, HK.out.far hgg _ _⟩
    · go_wp2
      go_meet
      exact ⟨_, rel_dn k s op fo en ti bl dn fl ac, b8.put 5 _ rfl, HK.out.far hgg _ _⟩
    · go_wp2
      go_meet
      exact ⟨_, rel_fl k s op fo en ti bl dn fl ac, b8.put 6 _ rfl, HK.out.far hgg _ _⟩
    · go_wp2
      go_meet
      exact ⟨_, rel_ac k s op fo en ti bl dn fl ac, b8.put 7 _ rfl, HK.out.far hgg _ _⟩
    · go_wp2
      go_meet
      exact ⟨_, rel_op k s op fo _ en ti bl dn fl ac, b8.put 8 _ rfl, HK.out.far hgg _ _⟩
    · go_wp2
      go_meet
      exact ⟨_, rel_fo k s op fo _ en ti bl dn fl ac, b8.put 9 _ rfl, HK.out.far hgg _ _⟩
  case rest =>
    obtain ⟨⟨k', s', en', ti', bl', dn', fl', ac', op', fo'⟩, hrel, b9, hK⟩ := hcut
    unfold Cs.cells at b9
    dsimp only at b9
    clear b8 Q8 HK c0 c1 c2 c3 c4 c5 c6 c7 c8 c9 f0 f1 f2 f3 f4 f5 f6 f7 f8 f9 zl u1 u2 u5 u6 u7 u8 v6 v8
    have HK := Lib.hid hK
    have B9 := Lib.hid b9
    obtain ⟨⟨c0, c1, c2, c3, c4, c5, c6, c7, c8, c9⟩, _, zl⟩ := cells10 hK.1
    clear hK b9
    go_upto_region 19 with (fail)
    go_cut [62] (fun v wx => v = .bool false ∧ Kept w g #[.int .i64 k, .int .i64 s, .bool en, .bool ti, .bool bl, .bool dn, .bool fl, .bool ac, .int .i64 op, .int .i64 fo] #[.bool pe, .bool pt, .int .i64 po] wx)
    case first =>
      go_wp2_with (fail)
      refine (admit_walk ⟨k, s, en, ti, bl, dn, fl, ac, op, fo⟩ _).mono ?_
      rintro e w1 ⟨rfl, hb1⟩
      have hK1 := HK.out.below hb1
      have b1 := B9.out.below hb1
      unfold Rel at hrel
      generalize admF ⟨k, s, en, ti, bl, dn, fl, ac, op, fo⟩ = A at *
      generalize hA' : admF ⟨k', s', en', ti', bl', dn', fl', ac', op', fo'⟩ = A' at *
      have HA' := Lib.hid hA'; clear hA'
      clear c0 c1 c2 c3 c4 c5 c6 c7 c8 c9 zl HK B9 hb1
      have HK := Lib.hid hK1; clear hK1
      obtain ⟨⟨c0, c1, c2, c3, c4, c5, c6, c7, c8, c9⟩, _, zl⟩ := cells10 b1
      by_cases h0 : A = 0
      · have h1 := hrel h0
        subst h0 h1
        clear b1 hrel
        go_wp2_with (fail)
        refine (admit_walk ⟨k', s', en', ti', bl', dn', fl', ac', op', fo'⟩ _).mono ?_
        rintro e w2 ⟨rfl, hb2⟩
        rw [HA'.out]
        go_wp2_with (fail)
        go_meet
        exact ⟨rfl, HK.out.below hb2⟩
      · have h1 : (A == 0) = false := beq_eq_false_iff_ne.2 h0
        clear b1 hrel h0
        go_wp2_with (fail)
        go_meet
        exact ⟨rfl, HK.out⟩
    case rest =>
      obtain ⟨rfl, hK2⟩ := hcut
      clear c0 c1 c2 c3 c4 c5 c6 c7 c8 c9 zl HK B9 hrel
      have HK := Lib.hid hK2
      obtain ⟨⟨p0, p1, p2⟩, _, zp⟩ := blk3 hK2.2.1
      clear hK2
      go_upto_region 23 with (fail)
      have hq : reachF pe pt po k s = 0 → reachF pe pt (bits .or .i64 po (wrap64 (2 ^ ((IntKind.u64.wrap x).tmod 5).toNat))) k s = 0 := reach_or _ _ _ _ _ _
      have hK3 := HK.out.alloc (.cells #[.bool pe, .bool pt, .int .i64 (bits .or .i64 po (wrap64 (2 ^ ((IntKind.u64.wrap x).tmod 5).toNat)))] 36)
      have bq := Blk.new wc 36 #[.bool pe, .bool pt, .int .i64 (bits .or .i64 po (wrap64 (2 ^ ((IntKind.u64.wrap x).tmod 5).toNat)))]
      generalize bits .or .i64 po (wrap64 (2 ^ ((IntKind.u64.wrap x).tmod 5).toNat)) = po' at *
      generalize wc.alloc (Obj.cells #[Value.bool pe, Value.bool pt, Value.int IntKind.i64 po'] 36) = W2 at *
      generalize wc.heap.size = gq at *
      clear p0 p1 p2 zp HK
      have HK := Lib.hid hK3
      have BQ := Lib.hid bq
      obtain ⟨⟨p0, p1, p2⟩, _, zp⟩ := blk3 hK3.2.1
      obtain ⟨⟨c0, c1, c2, c3, c4, c5, c6, c7, c8, c9⟩, _, zl⟩ := cells10 hK3.1
      clear hK3 bq
      go_cut [81] (fun v wx => v = .bool false ∧ Kept w g #[.int .i64 k, .int .i64 s, .bool en, .bool ti, .bool bl, .bool dn, .bool fl, .bool ac, .int .i64 op, .int .i64 fo] #[.bool pe, .bool pt, .int .i64 po] wx)
      case first =>
        go_wp2_with (fail)
        refine (reaches_walk pe pt po ⟨k, s, en, ti, bl, dn, fl, ac, op, fo⟩ _).mono ?_
        rintro e w1 ⟨rfl, hb1⟩
        dsimp only
        have hK4 := HK.out.below hb1
        have bq := BQ.out.below hb1
        clear p0 p1 p2 zp c0 c1 c2 c3 c4 c5 c6 c7 c8 c9 zl HK BQ hb1
        have HK := Lib.hid hK4
        obtain ⟨⟨p0, p1, p2⟩, _, zp⟩ := blk3 bq
        obtain ⟨⟨c0, c1, c2, c3, c4, c5, c6, c7, c8, c9⟩, _, zl⟩ := cells10 hK4.1
        clear hK4 bq
        generalize reachF pe pt po k s = A at *
        by_cases h0 : A = 0
        · have h1 := hq h0
          subst h0
          have H1 := Lib.hid h1
          clear h1 hq
          go_wp2_with (fail)
          refine (reaches_walk pe pt po' ⟨k, s, en, ti, bl, dn, fl, ac, op, fo⟩ _).mono ?_
          rintro e w2 ⟨rfl, hb2⟩
          dsimp only
          rw [H1.out]
          go_wp2_with (fail)
          go_meet
          exact ⟨rfl, HK.out.below hb2⟩
        · have h1 : (A == 0) = false := beq_eq_false_iff_ne.2 h0
          clear hq h0
          go_wp2_with (fail)
          go_meet
          exact ⟨rfl, HK.out⟩
      case rest =>
        obtain ⟨rfl, hK5⟩ := hcut
        clear p0 p1 p2 zp c0 c1 c2 c3 c4 c5 c6 c7 c8 c9 zl HK BQ hq
        have HK := Lib.hid hK5
        obtain ⟨⟨c0, c1, c2, c3, c4, c5, c6, c7, c8, c9⟩, _, zl⟩ := cells10 hK5.1
        clear hK5
        go_upto_region 26 with (fail)
        have hK6 := HK.out.alloc (.cells #[.int .i64 k, .int .i64 s, .bool true, .bool true, .bool false, .bool false, .bool false, .bool false, .int .i64 31, .int .i64 0] 24)
        have sm := sm_mk (Blk.new wc 24 #[.int .i64 k, .int .i64 s, .bool true, .bool true, .bool false, .bool false, .bool false, .bool false, .int .i64 31, .int .i64 0]) hK6.1 hK6.2.2.1 hK6.2.2.2
        have SM0 := Lib.hid sm
        unfold SM at sm
        obtain ⟨_, _, _, _, z1, z2, d0, d1, d2, d3, d4, d5, d6, d7, d8, d9, e0, e1⟩ := sm
        clear c0 c1 c2 c3 c4 c5 c6 c7 c8 c9 zl HK hK6
        generalize wc.alloc (Obj.cells #[Value.int IntKind.i64 k, Value.int IntKind.i64 s, Value.bool true, Value.bool true, Value.bool false, Value.bool false, Value.bool false, Value.bool false, Value.int IntKind.i64 31, Value.int IntKind.i64 0] 24) = W3 at *
        generalize wc.heap.size = g10 at *
        have hall := adm_all k s
        have HA := fun w => admit_walk ⟨k, s, true, true, false, false, false, false, 31, 0⟩ w
        have HB := bit_walk k s
        unfold Cs.cells at HA
        dsimp only at HA
        generalize admF ⟨k, s, true, true, false, false, false, false, 31, 0⟩ = A at hall HA
        generalize bitF k s = bb at hall HB
        by_cases hb0 : bb = 0
        · subst hb0
          have hA0 : (A == 0) = false := by rw [hall]; rfl
          replace HA := Lib.hid HA
          replace HB := Lib.hid HB
          clear hall
          refine wp_region_noPanic ?_
          refine wp_region_held_drew (S := (fun w' => Blk w' g10 24 #[.int .i64 k, .int .i64 s, .bool true, .bool true, .bool false, .bool false, .bool false, .bool false, .int .i64 31, .int .i64 0] ∧ Blk w' (g + 1 + 1) 24 #[.int .i64 k, .int .i64 s, .bool en, .bool ti, .bool bl, .bool dn, .bool fl, .bool ac, .int .i64 op, .int .i64 fo] ∧ WordsOk w' ∧ Below w.heap.size w w' ∧ g10 < w'.heap.size ∧ (g + 1 + 1) < w'.heap.size ∧ w'.cell? ⟨g10, 0, none⟩ = some (.int .i64 k) ∧ w'.cell? ⟨g10, 1, none⟩ = some (.int .i64 s) ∧ w'.cell? ⟨g10, 2, none⟩ = some (.bool true) ∧ w'.cell? ⟨g10, 3, none⟩ = some (.bool true) ∧ w'.cell? ⟨g10, 4, none⟩ = some (.bool false) ∧ w'.cell? ⟨g10, 5, none⟩ = some (.bool false) ∧ w'.cell? ⟨g10, 6, none⟩ = some (.bool false) ∧ w'.cell? ⟨g10, 7, none⟩ = some (.bool false) ∧ w'.cell? ⟨g10, 8, none⟩ = some (.int .i64 31) ∧ w'.cell? ⟨g10, 9, none⟩ = some (.int .i64 0) ∧ w'.cell? ⟨(g + 1 + 1), 0, none⟩ = some (.int .i64 k) ∧ w'.cell? ⟨(g + 1 + 1), 1, none⟩ = some (.int .i64 s))) (by kernel_rfl) ?_ (fun hHeld => ?_)
          · exact sm_drew SM0.out
          refine reg_take (i := 0) (oi := _) (v := ?_) rfl (by kernel_rfl) (by kernel_rfl) (by kernel_rfl) (fun _ _ _ h => h) (by rfl) ?_ (by assumption) ?_
          rotate_left
          · intro w hSw; (try dsimp only at hSw); go_simp; try with_reducible rfl
          (try simp only [Act.put, List.setIfInBounds_toArray, List.set_cons_zero, List.set_cons_succ])
          refine reg_take (i := 3) (oi := _) (v := ?_) rfl (by kernel_rfl) (by kernel_rfl) (by kernel_rfl) (fun _ _ _ h => h) (by rfl) ?_ (by assumption) ?_
          rotate_left
          · intro w hSw; (try dsimp only at hSw); go_simp; try with_reducible rfl
          (try simp only [Act.put, List.setIfInBounds_toArray, List.set_cons_zero, List.set_cons_succ])
          refine reg_take (i := 4) (oi := _) (v := ?_) rfl (by kernel_rfl) (by kernel_rfl) (by kernel_rfl) (fun _ _ _ h => h) (by rfl) ?_ (by assumption) ?_
          rotate_left
          · intro w hSw; (try dsimp only at hSw); go_simp; try with_reducible rfl
          (try simp only [Act.put, List.setIfInBounds_toArray, List.set_cons_zero, List.set_cons_succ])
          refine reg_take (i := 5) (oi := _) (v := ?_) rfl (by kernel_rfl) (by kernel_rfl) (by kernel_rfl) (fun _ _ _ h => h) (by rfl) ?_ (by assumption) ?_
          rotate_left
          · intro w hSw; (try dsimp only at hSw); go_simp; try with_reducible rfl
          (try simp only [Act.put, List.setIfInBounds_toArray, List.set_cons_zero, List.set_cons_succ])
          refine reg_take (i := 6) (oi := _) (v := ?_) rfl (by kernel_rfl) (by kernel_rfl) (by kernel_rfl) (fun _ _ _ h => h) (by rfl) ?_ (by assumption) ?_
          rotate_left
          · intro w hSw; (try dsimp only at hSw); go_simp; try with_reducible rfl
          (try simp only [Act.put, List.setIfInBounds_toArray, List.set_cons_zero, List.set_cons_succ])
          refine wpAnyH_ready (rs := [1]) (by kernel_rfl) (by simp) ?_
          refine reg_each (o := _) rfl (fun K hK => ?_) ?_
          · skip
            go_simp
            refine (HA.out _).mono ?_
            rintro e w2 ⟨rfl, hb⟩
            go_wp2_with (fail)
            refine hK.out _ _ ?_ (fun hHeld2 => ?_)
            · exact sm_below hb hHeld
            clear hK K hHeld
            have hHeld := hHeld2
            clear hHeld2
            (try simp only [Act.put, List.setIfInBounds_toArray, List.set_cons_zero, List.set_cons_succ])
            refine reg_take (i := 2) (oi := _) (v := ?_) rfl (by kernel_rfl) (by kernel_rfl) (by kernel_rfl) (fun _ _ _ h => h) (by rfl) ?_ (by assumption) ?_
            rotate_left
            · intro w hSw; (try dsimp only at hSw); go_simp; try with_reducible rfl
            (try simp only [Act.put, List.setIfInBounds_toArray, List.set_cons_zero, List.set_cons_succ])
            refine wpAnyH_ready (rs := [7]) (by kernel_rfl) (by simp) ?_
            refine reg_each (o := _) rfl (fun K hK => ?_) ?_
            · skip
              go_simp
              refine (HB.out _).mono ?_
              rintro e w2 ⟨rfl, rfl⟩
              go_wp2_with (fail)
              refine hK.out _ _ ?_ (fun hHeld2 => ?_)
              · exact hHeld
              clear hK K hHeld
              have hHeld := hHeld2
              clear hHeld2
              (try simp only [Act.put, List.setIfInBounds_toArray, List.set_cons_zero, List.set_cons_succ])
              refine reg_take (i := 8) (oi := _) (v := ?_) rfl (by kernel_rfl) (by kernel_rfl) (by kernel_rfl) (fun _ _ _ h => h) (by rfl) ?_ (by assumption) ?_
              rotate_left
              · intro w hSw; (try dsimp only at hSw); go_simp; try with_reducible rfl
              (try simp only [Act.put, List.setIfInBounds_toArray, List.set_cons_zero, List.set_cons_succ])
              refine reg_take (i := 9) (oi := _) (v := ?_) rfl (by kernel_rfl) (by kernel_rfl) (by kernel_rfl) (fun _ _ _ h => h) (by rfl) ?_ (by assumption) ?_
              rotate_left
              · intro w hSw; (try dsimp only at hSw); go_simp; try with_reducible rfl
              (try simp only [Act.put, List.setIfInBounds_toArray, List.set_cons_zero, List.set_cons_succ])
              refine reg_take (i := 10) (oi := _) (v := ?_) rfl (by kernel_rfl) (by kernel_rfl) (by kernel_rfl) (fun _ _ _ h => h) (by rfl) ?_ (by assumption) ?_
              rotate_left
              · intro w hSw; (try dsimp only at hSw); go_simp; try with_reducible rfl
              (try simp only [Act.put, List.setIfInBounds_toArray, List.set_cons_zero, List.set_cons_succ])
              refine wpAnyH_ready (rs := [11]) (by kernel_rfl) (by simp) ?_
              refine reg_each (o := _) rfl (fun K hK => ?_) ?_
              · skip
                go_simp
                refine (sure_walk _ hHeld.2.2.1).mono ?_
                rintro e w2 ⟨rfl, hb⟩
                go_wp2_with (fail)
                refine hK.out _ _ ?_ (fun hHeld2 => ?_)
                · exact sm_below hb hHeld
                clear hK K hHeld
                have hHeld := hHeld2
                clear hHeld2
                (try simp only [Act.put, List.setIfInBounds_toArray, List.set_cons_zero, List.set_cons_succ])
                refine reg_take (i := 12) (oi := _) (v := ?_) rfl (by kernel_rfl) (by kernel_rfl) (by kernel_rfl) (fun _ _ _ h => h) (by rfl) ?_ (by assumption) ?_
                rotate_left
                · intro w hSw; (try dsimp only at hSw); go_simp; try with_reducible rfl
                (try simp only [Act.put, List.setIfInBounds_toArray, List.set_cons_zero, List.set_cons_succ])
                refine reg_take (i := 13) (oi := _) (v := ?_) rfl (by kernel_rfl) (by kernel_rfl) (by kernel_rfl) (fun _ _ _ h => h) (by rfl) ?_ (by assumption) ?_
                rotate_left
                · intro w hSw; (try dsimp only at hSw); go_simp; try with_reducible rfl
                (try simp only [Act.put, List.setIfInBounds_toArray, List.set_cons_zero, List.set_cons_succ])
                refine wpAnyH_done (by kernel_rfl) ?_ _
                refine NoPanic.normal ?_
                go_wp2
                go_ret
                exact ⟨rfl, hHeld.2.2.2.1⟩
              exact AllReadyH.nil
            exact AllReadyH.nil
          exact AllReadyH.nil
        · have hB0 : (bb != 0) = true := bne_iff_ne.2 hb0
          obtain rfl : A = 0 := by rw [hB0] at hall; exact beq_iff_eq.1 hall
          replace HA := Lib.hid HA
          replace HB := Lib.hid HB
          clear hall hb0
          refine wp_region_noPanic ?_
          refine wp_region_held_drew (S := (fun w' => Blk w' g10 24 #[.int .i64 k, .int .i64 s, .bool true, .bool true, .bool false, .bool false, .bool false, .bool false, .int .i64 31, .int .i64 0] ∧ Blk w' (g + 1 + 1) 24 #[.int .i64 k, .int .i64 s, .bool en, .bool ti, .bool bl, .bool dn, .bool fl, .bool ac, .int .i64 op, .int .i64 fo] ∧ WordsOk w' ∧ Below w.heap.size w w' ∧ g10 < w'.heap.size ∧ (g + 1 + 1) < w'.heap.size ∧ w'.cell? ⟨g10, 0, none⟩ = some (.int .i64 k) ∧ w'.cell? ⟨g10, 1, none⟩ = some (.int .i64 s) ∧ w'.cell? ⟨g10, 2, none⟩ = some (.bool true) ∧ w'.cell? ⟨g10, 3, none⟩ = some (.bool true) ∧ w'.cell? ⟨g10, 4, none⟩ = some (.bool false) ∧ w'.cell? ⟨g10, 5, none⟩ = some (.bool false) ∧ w'.cell? ⟨g10, 6, none⟩ = some (.bool false) ∧ w'.cell? ⟨g10, 7, none⟩ = some (.bool false) ∧ w'.cell? ⟨g10, 8, none⟩ = some (.int .i64 31) ∧ w'.cell? ⟨g10, 9, none⟩ = some (.int .i64 0) ∧ w'.cell? ⟨(g + 1 + 1), 0, none⟩ = some (.int .i64 k) ∧ w'.cell? ⟨(g + 1 + 1), 1, none⟩ = some (.int .i64 s))) (by kernel_rfl) ?_ (fun hHeld => ?_)
          · exact sm_drew SM0.out
          refine reg_take (i := 0) (oi := _) (v := ?_) rfl (by kernel_rfl) (by kernel_rfl) (by kernel_rfl) (fun _ _ _ h => h) (by rfl) ?_ (by assumption) ?_
          rotate_left
          · intro w hSw; (try dsimp only at hSw); go_simp; try with_reducible rfl
          (try simp only [Act.put, List.setIfInBounds_toArray, List.set_cons_zero, List.set_cons_succ])
          refine reg_take (i := 3) (oi := _) (v := ?_) rfl (by kernel_rfl) (by kernel_rfl) (by kernel_rfl) (fun _ _ _ h => h) (by rfl) ?_ (by assumption) ?_
          rotate_left
          · intro w hSw; (try dsimp only at hSw); go_simp; try with_reducible rfl
          (try simp only [Act.put, List.setIfInBounds_toArray, List.set_cons_zero, List.set_cons_succ])
          refine reg_take (i := 4) (oi := _) (v := ?_) rfl (by kernel_rfl) (by kernel_rfl) (by kernel_rfl) (fun _ _ _ h => h) (by rfl) ?_ (by assumption) ?_
          rotate_left
          · intro w hSw; (try dsimp only at hSw); go_simp; try with_reducible rfl
          (try simp only [Act.put, List.setIfInBounds_toArray, List.set_cons_zero, List.set_cons_succ])
          refine reg_take (i := 5) (oi := _) (v := ?_) rfl (by kernel_rfl) (by kernel_rfl) (by kernel_rfl) (fun _ _ _ h => h) (by rfl) ?_ (by assumption) ?_
          rotate_left
          · intro w hSw; (try dsimp only at hSw); go_simp; try with_reducible rfl
          (try simp only [Act.put, List.setIfInBounds_toArray, List.set_cons_zero, List.set_cons_succ])
          refine reg_take (i := 6) (oi := _) (v := ?_) rfl (by kernel_rfl) (by kernel_rfl) (by kernel_rfl) (fun _ _ _ h => h) (by rfl) ?_ (by assumption) ?_
          rotate_left
          · intro w hSw; (try dsimp only at hSw); go_simp; try with_reducible rfl
          (try simp only [Act.put, List.setIfInBounds_toArray, List.set_cons_zero, List.set_cons_succ])
          refine wpAnyH_ready (rs := [1]) (by kernel_rfl) (by simp) ?_
          refine reg_each (o := _) rfl (fun K hK => ?_) ?_
          · skip
            go_simp
            refine (HA.out _).mono ?_
            rintro e w2 ⟨rfl, hb⟩
            go_wp2_with (fail)
            refine hK.out _ _ ?_ (fun hHeld2 => ?_)
            · exact sm_below hb hHeld
            clear hK K hHeld
            have hHeld := hHeld2
            clear hHeld2
            (try simp only [Act.put, List.setIfInBounds_toArray, List.set_cons_zero, List.set_cons_succ])
            refine reg_take (i := 2) (oi := _) (v := ?_) rfl (by kernel_rfl) (by kernel_rfl) (by kernel_rfl) (fun _ _ _ h => h) (by rfl) ?_ (by assumption) ?_
            rotate_left
            · intro w hSw; (try dsimp only at hSw); go_simp; try with_reducible rfl
            (try simp only [Act.put, List.setIfInBounds_toArray, List.set_cons_zero, List.set_cons_succ])
            refine wpAnyH_ready (rs := [7]) (by kernel_rfl) (by simp) ?_
            refine reg_each (o := _) rfl (fun K hK => ?_) ?_
            · skip
              go_simp
              refine (HB.out _).mono ?_
              rintro e w2 ⟨rfl, rfl⟩
              go_wp2_with (fail)
              refine hK.out _ _ ?_ (fun hHeld2 => ?_)
              · exact hHeld
              clear hK K hHeld
              have hHeld := hHeld2
              clear hHeld2
              (try simp only [Act.put, List.setIfInBounds_toArray, List.set_cons_zero, List.set_cons_succ])
              refine reg_take (i := 8) (oi := _) (v := ?_) rfl (by kernel_rfl) (by kernel_rfl) (by kernel_rfl) (fun _ _ _ h => h) (by rfl) ?_ (by assumption) ?_
              rotate_left
              · intro w hSw; (try dsimp only at hSw); go_simp; try with_reducible rfl
              (try simp only [Act.put, List.setIfInBounds_toArray, List.set_cons_zero, List.set_cons_succ])
              refine reg_take (i := 9) (oi := _) (v := ?_) rfl (by kernel_rfl) (by kernel_rfl) (by kernel_rfl) (fun _ _ _ h => h) (by rfl) ?_ (by assumption) ?_
              rotate_left
              · intro w hSw; (try dsimp only at hSw); go_simp; try with_reducible rfl
              (try simp only [Act.put, List.setIfInBounds_toArray, List.set_cons_zero, List.set_cons_succ])
              refine reg_take (i := 10) (oi := _) (v := ?_) rfl (by kernel_rfl) (by kernel_rfl) (by kernel_rfl) (fun _ _ _ h => h) (by rfl) ?_ (by assumption) ?_
              rotate_left
              · intro w hSw; (try dsimp only at hSw); go_simp; try with_reducible rfl
              (try simp only [Act.put, List.setIfInBounds_toArray, List.set_cons_zero, List.set_cons_succ])
              refine wpAnyH_ready (rs := [11]) (by kernel_rfl) (by simp) ?_
              refine reg_each (o := _) rfl (fun K hK => ?_) ?_
              · skip
                go_simp
                refine (sure_walk _ hHeld.2.2.1).mono ?_
                rintro e w2 ⟨rfl, hb⟩
                go_wp2_with (fail)
                refine hK.out _ _ ?_ (fun hHeld2 => ?_)
                · exact sm_below hb hHeld
                clear hK K hHeld
                have hHeld := hHeld2
                clear hHeld2
                (try simp only [Act.put, List.setIfInBounds_toArray, List.set_cons_zero, List.set_cons_succ])
                refine reg_take (i := 12) (oi := _) (v := ?_) rfl (by kernel_rfl) (by kernel_rfl) (by kernel_rfl) (fun _ _ _ h => h) (by rfl) ?_ (by assumption) ?_
                rotate_left
                · intro w hSw; (try dsimp only at hSw); go_simp; try with_reducible rfl
                (try simp only [Act.put, List.setIfInBounds_toArray, List.set_cons_zero, List.set_cons_succ])
                refine reg_take (i := 13) (oi := _) (v := ?_) rfl (by kernel_rfl) (by kernel_rfl) (by kernel_rfl) (fun _ _ _ h => h) (by rfl) ?_ (by assumption) ?_
                rotate_left
                · intro w hSw; (try dsimp only at hSw); go_simp; try with_reducible rfl
                (try simp only [Act.put, List.setIfInBounds_toArray, List.set_cons_zero, List.set_cons_succ])
                refine wpAnyH_done (by kernel_rfl) ?_ _
                refine NoPanic.normal ?_
                go_wp2
                go_ret
                exact ⟨rfl, hHeld.2.2.2.1⟩
              exact AllReadyH.nil
            exact AllReadyH.nil
          exact AllReadyH.nil
end Go.Proofs.YtjffciejoahegaaDoor
