/- The law NotifyAdmits, walked. -/
import Derived.Test.YtjffciejoahegaaDoorRefAdmit
import Derived.Deep.RegionHeld3
import Derived.Deep.CutRange
import Derived.Deep.CutBlock
namespace Go.Proofs.YtjffciejoahegaaDoor
open Go.RowKit
def wordF (k : Int) : ByteArray := (if k = 0 then ⟨#[112, 114, 111, 98, 108, 101, 109]⟩ else if k = 1 then ⟨#[114, 101, 99, 111, 118, 101, 114, 121]⟩ else if k = 2 then ⟨#[102, 108, 97, 112, 115, 116, 97, 114, 116]⟩ else if k = 3 then ⟨#[102, 108, 97, 112, 115, 116, 111, 112]⟩ else if k = 4 then ⟨#[99, 117, 115, 116, 111, 109]⟩ else ⟨#[]⟩)
def SN (w : World) (g2 g3 : Nat) (x0 x1 x2 x3 x4 x5 x6 x7 x8 x9 y0 y1 y2 : Value) (w' : World) : Prop :=
  Blk w' g2 23 #[x0, x1, x2, x3, x4, x5, x6, x7, x8, x9] ∧ Blk w' g3 32 #[y0, y1, y2] ∧ WordsOk w' ∧ Below w.heap.size w w' ∧ g2 < w'.heap.size ∧ g3 < w'.heap.size ∧ w'.cell? ⟨g2, 0, none⟩ = some (x0) ∧ w'.cell? ⟨g2, 1, none⟩ = some (x1) ∧ w'.cell? ⟨g2, 2, none⟩ = some (x2) ∧ w'.cell? ⟨g2, 3, none⟩ = some (x3) ∧ w'.cell? ⟨g2, 4, none⟩ = some (x4) ∧ w'.cell? ⟨g2, 5, none⟩ = some (x5) ∧ w'.cell? ⟨g2, 6, none⟩ = some (x6) ∧ w'.cell? ⟨g2, 7, none⟩ = some (x7) ∧ w'.cell? ⟨g2, 8, none⟩ = some (x8) ∧ w'.cell? ⟨g2, 9, none⟩ = some (x9) ∧ w'.cell? ⟨g3, 0, none⟩ = some (y0) ∧ w'.cell? ⟨g3, 1, none⟩ = some (y1) ∧ w'.cell? ⟨g3, 2, none⟩ = some (y2)
section
variable {w W w' : World} {g2 g3 : Nat} {x0 x1 x2 x3 x4 x5 x6 x7 x8 x9 y0 y1 y2 : Value}
theorem sn_mk (h : Blk w' g2 23 #[x0, x1, x2, x3, x4, x5, x6, x7, x8, x9]) (k : Blk w' g3 32 #[y0, y1, y2]) (hw : WordsOk w') (hb : Below w.heap.size w w') : SN w g2 g3 x0 x1 x2 x3 x4 x5 x6 x7 x8 x9 y0 y1 y2 w' :=
  ⟨h, k, hw, hb, h.lt, k.lt, h.cell 0, h.cell 1, h.cell 2, h.cell 3, h.cell 4, h.cell 5, h.cell 6, h.cell 7, h.cell 8, h.cell 9, k.cell 0, k.cell 1, k.cell 2⟩
theorem sn_below (hb : Below W.heap.size W w') (h : SN w g2 g3 x0 x1 x2 x3 x4 x5 x6 x7 x8 x9 y0 y1 y2 W) : SN w g2 g3 x0 x1 x2 x3 x4 x5 x6 x7 x8 x9 y0 y1 y2 w' := sn_mk (h.1.below hb) (h.2.1.below hb) (h.2.2.1.below hb) (below_trans h.2.2.2.1 hb)
theorem sn_drew (h : SN w g2 g3 x0 x1 x2 x3 x4 x5 x6 x7 x8 x9 y0 y1 y2 W) : SN w g2 g3 x0 x1 x2 x3 x4 x5 x6 x7 x8 x9 y0 y1 y2 W.drew := sn_mk h.1.drew h.2.1.drew h.2.2.1.drew (below_drewN h.2.2.2.1 1)
end
set_option maxRecDepth 100000 in
set_option maxHeartbeats 8000000 in
theorem admits_walk (k s op fo : Int) (en ti bl dn fl ac : Bool) (pe pt : Bool) (po : Int) (w : World) (hw : WordsOk w)
    (o1 : -9223372036854775808 ≤ op) (o2 : op ≤ 9223372036854775807) (o3 : -9223372036854775808 ≤ fo) (o4 : fo ≤ 9223372036854775807) (o5 : -9223372036854775808 ≤ po) (o6 : po ≤ 9223372036854775807) :
    Calls Tryd.prog 4 #[.agg #[.int .i64 k, .int .i64 s, .bool en, .bool ti, .bool bl, .bool dn, .bool fl, .bool ac, .int .i64 op, .int .i64 fo], .agg #[.bool pe, .bool pt, .int .i64 po]] w fun e w' => e = .returned (.bool true) ∧ Below w.heap.size w w' := by
  have a1 := fun w => admit_walk ⟨k, s, en, ti, bl, dn, fl, ac, op, fo⟩ w
  have a2 := fun w => radmit_walk ⟨k, s, en, ti, bl, dn, fl, ac, op, fo⟩ w o1 o2 o3 o4
  have a3 := fun w => reaches_walk pe pt po ⟨k, s, en, ti, bl, dn, fl, ac, op, fo⟩ w
  have a4 := fun w => rreaches_walk pe pt po ⟨k, s, en, ti, bl, dn, fl, ac, op, fo⟩ w o5 o6
  have a5 := fun w => bit_walk k s w
  have a6 := fun w => rbit_walk k s w
  have a7 : ∀ w, WordsOk w → Calls Tryd.prog 15 #[.int .i64 k] w fun e w' => e = .returned (.string (wordF k)) ∧ w = w' := fun w hw => word_walk k w hw
  unfold Cs.cells at a1 a2 a3 a4
  dsimp only at a1 a2 a3 a4
  generalize admF ⟨k, s, en, ti, bl, dn, fl, ac, op, fo⟩ = A at a1 a2
  generalize reachF pe pt po k s = B at a3 a4
  generalize bitF k s = b at a5 a6
  have A1 := Lib.hid a1; have A2 := Lib.hid a2; have A3 := Lib.hid a3; have A4 := Lib.hid a4; have A5 := Lib.hid a5; have A6 := Lib.hid a6; have A7 := Lib.hid a7
  clear a1 a2 a3 a4 a5 a6 a7 o1 o2 o3 o4 o5 o6
  have q2 := ((Blk.new w 23 #[.int .i64 k, .int .i64 s, .bool en, .bool ti, .bool bl, .bool dn, .bool fl, .bool ac, .int .i64 op, .int .i64 fo]).alloc (.cells #[.bool pe, .bool pt, .int .i64 po] 32)).alloc (.cells #[.string ⟨#[112, 114, 111, 98, 108, 101, 109]⟩, .string ⟨#[114, 101, 99, 111, 118, 101, 114, 121]⟩, .string ⟨#[102, 108, 97, 112, 115, 116, 97, 114, 116]⟩, .string ⟨#[102, 108, 97, 112, 115, 116, 111, 112]⟩, .string ⟨#[99, 117, 115, 116, 111, 109]⟩] 9)
  have q3 := (Blk.new1 w (.cells #[.int .i64 k, .int .i64 s, .bool en, .bool ti, .bool bl, .bool dn, .bool fl, .bool ac, .int .i64 op, .int .i64 fo] 23) 32 #[.bool pe, .bool pt, .int .i64 po]).alloc (.cells #[.string ⟨#[112, 114, 111, 98, 108, 101, 109]⟩, .string ⟨#[114, 101, 99, 111, 118, 101, 114, 121]⟩, .string ⟨#[102, 108, 97, 112, 115, 116, 97, 114, 116]⟩, .string ⟨#[102, 108, 97, 112, 115, 116, 111, 112]⟩, .string ⟨#[99, 117, 115, 116, 111, 109]⟩] 9)
  have qs := Blk.new2 w (.cells #[.int .i64 k, .int .i64 s, .bool en, .bool ti, .bool bl, .bool dn, .bool fl, .bool ac, .int .i64 op, .int .i64 fo] 23) (.cells #[.bool pe, .bool pt, .int .i64 po] 32) 9 #[.string ⟨#[112, 114, 111, 98, 108, 101, 109]⟩, .string ⟨#[114, 101, 99, 111, 118, 101, 114, 121]⟩, .string ⟨#[102, 108, 97, 112, 115, 116, 97, 114, 116]⟩, .string ⟨#[102, 108, 97, 112, 115, 116, 111, 112]⟩, .string ⟨#[99, 117, 115, 116, 111, 109]⟩]
  have qw := ((hw.alloc (.cells #[.int .i64 k, .int .i64 s, .bool en, .bool ti, .bool bl, .bool dn, .bool fl, .bool ac, .int .i64 op, .int .i64 fo] 23)).alloc (.cells #[.bool pe, .bool pt, .int .i64 po] 32)).alloc (.cells #[.string ⟨#[112, 114, 111, 98, 108, 101, 109]⟩, .string ⟨#[114, 101, 99, 111, 118, 101, 114, 121]⟩, .string ⟨#[102, 108, 97, 112, 115, 116, 97, 114, 116]⟩, .string ⟨#[102, 108, 97, 112, 115, 116, 111, 112]⟩, .string ⟨#[99, 117, 115, 116, 111, 109]⟩] 9)
  have B0 := below_al (below_al (below_al (Below.refl w.heap.size w) (.cells #[.int .i64 k, .int .i64 s, .bool en, .bool ti, .bool bl, .bool dn, .bool fl, .bool ac, .int .i64 op, .int .i64 fo] 23)) (.cells #[.bool pe, .bool pt, .int .i64 po] 32)) (.cells #[.string ⟨#[112, 114, 111, 98, 108, 101, 109]⟩, .string ⟨#[114, 101, 99, 111, 118, 101, 114, 121]⟩, .string ⟨#[102, 108, 97, 112, 115, 116, 97, 114, 116]⟩, .string ⟨#[102, 108, 97, 112, 115, 116, 111, 112]⟩, .string ⟨#[99, 117, 115, 116, 111, 109]⟩] 9)
  have sn := sn_mk q2 q3 qw B0
  have SN0 := Lib.hid sn
  clear sn q3 qw B0 hw
  have k0 := q2.cell 0
  have s0 := qs.cell 0; have s1 := qs.cell 1; have s2 := qs.cell 2; have s3 := qs.cell 3; have s4 := qs.cell 4
  simp only [List.getElem?_toArray, List.getElem?_cons_succ, List.getElem?_cons_zero] at k0 s0 s1 s2 s3 s4
  have HS := Lib.hid (And.intro k0 (And.intro s0 (And.intro s1 (And.intro s2 (And.intro s3 s4)))))
  clear k0 s0 s1 s2 s3 s4 q2 qs
  go_enter Tryd.func4, Tryd.ntmps4
  go_upto_region 3 with (fail)
  generalize ((w.alloc (Obj.cells #[Value.int IntKind.i64 k, Value.int IntKind.i64 s, Value.bool en, Value.bool ti, Value.bool bl, Value.bool dn, Value.bool fl, Value.bool ac, Value.int IntKind.i64 op, Value.int IntKind.i64 fo] 23)).alloc (Obj.cells #[Value.bool pe, Value.bool pt, Value.int IntKind.i64 po] 32)).alloc (Obj.cells #[Value.string ⟨#[112, 114, 111, 98, 108, 101, 109]⟩, Value.string ⟨#[114, 101, 99, 111, 118, 101, 114, 121]⟩, Value.string ⟨#[102, 108, 97, 112, 115, 116, 97, 114, 116]⟩, Value.string ⟨#[102, 108, 97, 112, 115, 116, 111, 112]⟩, Value.string ⟨#[99, 117, 115, 116, 111, 109]⟩] 9) = W at *
  generalize hgg : w.heap.size = g at SN0 HS ⊢
  obtain ⟨k0, s0, s1, s2, s3, s4⟩ := HS.out
  go_cut [15] (fun v wx => v = .bool (decide (0 ≤ k ∧ k < 5)) ∧ wx = W)
  case first =>
    by_cases h0 : 0 ≤ k
    · have d0 : decide (0 ≤ k) = true := decide_eq_true h0
      by_cases h5 : k < 5
      · have d5 : decide (k < 5) = true := decide_eq_true h5
        go_wp2_with (fail)
        go_meet
        exact ⟨congrArg Value.bool (decide_eq_true (p := 0 ≤ k ∧ k < 5) ⟨h0, h5⟩).symm, rfl⟩
      · have d5 : decide (k < 5) = false := decide_eq_false h5
        have H5 := Lib.hid h5
        clear h5
        go_wp2_with (fail)
        go_meet
        exact ⟨congrArg Value.bool (decide_eq_false (p := 0 ≤ k ∧ k < 5) (by have := H5.out; omega)).symm, rfl⟩
    · have d0 : decide (0 ≤ k) = false := decide_eq_false h0
      have H0 := Lib.hid h0
      clear h0
      go_wp2_with (fail)
      go_meet
      exact ⟨congrArg Value.bool (decide_eq_false (p := 0 ≤ k ∧ k < 5) (by have := H0.out; omega)).symm, rfl⟩
  case rest =>
    obtain ⟨rfl, rfl⟩ := hcut
    go_upto_if 15 with (fail)
    go_cut [6] (fun v wx => v = .string (wordF k) ∧ wx = wc)
    case first =>
      by_cases h : 0 ≤ k ∧ k < 5
      · rcases (by omega : k = 0 ∨ k = 1 ∨ k = 2 ∨ k = 3 ∨ k = 4) with rfl | rfl | rfl | rfl | rfl
        all_goals
          go_wp2
          go_meet
          exact ⟨rfl, rfl⟩
      · rw [decide_eq_false h]
        have e : wordF k = ⟨#[]⟩ := by unfold wordF; rw [if_neg (by omega), if_neg (by omega), if_neg (by omega), if_neg (by omega), if_neg (by omega)]
        go_wp2
        go_meet
        exact ⟨by first | rw [e], rfl⟩
    case rest =>
      obtain ⟨rfl, rfl⟩ := hcut
      generalize wordF k = ws at *
      clear k0 s0 s1 s2 s3 s4 HS
      have sn := SN0.out
      unfold SN at sn
      obtain ⟨_, _, _, _, z1, z2, c0, c1, c2, c3, c4, c5, c6, c7, c8, c9, p0, p1, p2⟩ := sn
      go_upto_region 5 with (fail)
      refine wp_region_noPanic ?_
      refine wp_region_held_drew (S := (fun w' => Blk w' g 23 #[.int .i64 k, .int .i64 s, .bool en, .bool ti, .bool bl, .bool dn, .bool fl, .bool ac, .int .i64 op, .int .i64 fo] ∧ Blk w' (g + 1) 32 #[.bool pe, .bool pt, .int .i64 po] ∧ WordsOk w' ∧ Below w.heap.size w w' ∧ g < w'.heap.size ∧ (g + 1) < w'.heap.size ∧ w'.cell? ⟨g, 0, none⟩ = some (.int .i64 k) ∧ w'.cell? ⟨g, 1, none⟩ = some (.int .i64 s) ∧ w'.cell? ⟨g, 2, none⟩ = some (.bool en) ∧ w'.cell? ⟨g, 3, none⟩ = some (.bool ti) ∧ w'.cell? ⟨g, 4, none⟩ = some (.bool bl) ∧ w'.cell? ⟨g, 5, none⟩ = some (.bool dn) ∧ w'.cell? ⟨g, 6, none⟩ = some (.bool fl) ∧ w'.cell? ⟨g, 7, none⟩ = some (.bool ac) ∧ w'.cell? ⟨g, 8, none⟩ = some (.int .i64 op) ∧ w'.cell? ⟨g, 9, none⟩ = some (.int .i64 fo) ∧ w'.cell? ⟨(g + 1), 0, none⟩ = some (.bool pe) ∧ w'.cell? ⟨(g + 1), 1, none⟩ = some (.bool pt) ∧ w'.cell? ⟨(g + 1), 2, none⟩ = some (.int .i64 po))) (by kernel_rfl) ?_ (fun hHeld => ?_)
      · exact sn_drew SN0.out
      refine reg_take (i := 0) (oi := _) (v := ?_) rfl (by kernel_rfl) (by kernel_rfl) (by kernel_rfl) (fun _ _ _ h => h) (by rfl) ?_ (by assumption) ?_
      rotate_left
      · intro w hSw; (try dsimp only at hSw); go_simp; try with_reducible rfl
      (try simp only [Act.put, List.setIfInBounds_toArray, List.set_cons_zero, List.set_cons_succ])
      refine reg_take (i := 2) (oi := _) (v := ?_) rfl (by kernel_rfl) (by kernel_rfl) (by kernel_rfl) (fun _ _ _ h => h) (by rfl) ?_ (by assumption) ?_
      rotate_left
      · intro w hSw; (try dsimp only at hSw); go_simp; try with_reducible rfl
      (try simp only [Act.put, List.setIfInBounds_toArray, List.set_cons_zero, List.set_cons_succ])
      refine wpAnyH_ready (rs := [1]) (by kernel_rfl) (by simp) ?_
      refine reg_each (o := _) rfl (fun K hK => ?_) ?_
      · skip
        go_simp
        refine (A1.out _).mono ?_
        rintro e w2 ⟨rfl, hb⟩
        go_wp2_with (fail)
        refine hK.out _ _ ?_ (fun hHeld2 => ?_)
        · exact sn_below hb hHeld
        clear hK K hHeld
        have hHeld := hHeld2
        clear hHeld2
        (try simp only [Act.put, List.setIfInBounds_toArray, List.set_cons_zero, List.set_cons_succ])
        refine wpAnyH_ready (rs := [3]) (by kernel_rfl) (by simp) ?_
        refine reg_each (o := _) rfl (fun K hK => ?_) ?_
        · skip
          go_simp
          refine (A2.out _).mono ?_
          rintro e w2 ⟨rfl, hb⟩
          go_wp2_with (fail)
          refine hK.out _ _ ?_ (fun hHeld2 => ?_)
          · exact sn_below hb hHeld
          clear hK K hHeld
          have hHeld := hHeld2
          clear hHeld2
          (try simp only [Act.put, List.setIfInBounds_toArray, List.set_cons_zero, List.set_cons_succ])
          refine reg_take (i := 4) (oi := _) (v := ?_) rfl (by kernel_rfl) (by kernel_rfl) (by kernel_rfl) (fun _ _ _ h => h) (by rfl) ?_ (by assumption) ?_
          rotate_left
          · intro w hSw; (try dsimp only at hSw); go_simp; try with_reducible rfl
          (try simp only [Act.put, List.setIfInBounds_toArray, List.set_cons_zero, List.set_cons_succ])
          refine reg_take (i := 5) (oi := _) (v := ?_) rfl (by kernel_rfl) (by kernel_rfl) (by kernel_rfl) (fun _ _ _ h => h) (by rfl) ?_ (by assumption) ?_
          rotate_left
          · intro w hSw; (try dsimp only at hSw); go_simp; try with_reducible rfl
          (try simp only [Act.put, List.setIfInBounds_toArray, List.set_cons_zero, List.set_cons_succ])
          refine reg_take (i := 6) (oi := _) (v := ?_) rfl (by kernel_rfl) (by kernel_rfl) (by kernel_rfl) (fun _ _ _ h => h) (by rfl) ?_ (by assumption) ?_
          rotate_left
          · intro w hSw; (try dsimp only at hSw); go_simp; try with_reducible rfl
          (try simp only [Act.put, List.setIfInBounds_toArray, List.set_cons_zero, List.set_cons_succ])
          refine reg_take (i := 7) (oi := _) (v := ?_) rfl (by kernel_rfl) (by kernel_rfl) (by kernel_rfl) (fun _ _ _ h => h) (by rfl) ?_ (by assumption) ?_
          rotate_left
          · intro w hSw; (try dsimp only at hSw); go_simp; try with_reducible rfl
          (try simp only [Act.put, List.setIfInBounds_toArray, List.set_cons_zero, List.set_cons_succ])
          refine reg_take (i := 9) (oi := _) (v := ?_) rfl (by kernel_rfl) (by kernel_rfl) (by kernel_rfl) (fun _ _ _ h => h) (by rfl) ?_ (by assumption) ?_
          rotate_left
          · intro w hSw; (try dsimp only at hSw); go_simp; try with_reducible rfl
          (try simp only [Act.put, List.setIfInBounds_toArray, List.set_cons_zero, List.set_cons_succ])
          refine reg_take (i := 10) (oi := _) (v := ?_) rfl (by kernel_rfl) (by kernel_rfl) (by kernel_rfl) (fun _ _ _ h => h) (by rfl) ?_ (by assumption) ?_
          rotate_left
          · intro w hSw; (try dsimp only at hSw); go_simp; try with_reducible rfl
          (try simp only [Act.put, List.setIfInBounds_toArray, List.set_cons_zero, List.set_cons_succ])
          refine wpAnyH_ready (rs := [8]) (by kernel_rfl) (by simp) ?_
          refine reg_each (o := _) rfl (fun K hK => ?_) ?_
          · skip
            go_simp
            refine (A3.out _).mono ?_
            rintro e w2 ⟨rfl, hb⟩
            go_wp2_with (fail)
            refine hK.out _ _ ?_ (fun hHeld2 => ?_)
            · exact sn_below hb hHeld
            clear hK K hHeld
            have hHeld := hHeld2
            clear hHeld2
            (try simp only [Act.put, List.setIfInBounds_toArray, List.set_cons_zero, List.set_cons_succ])
            refine wpAnyH_ready (rs := [11]) (by kernel_rfl) (by simp) ?_
            refine reg_each (o := _) rfl (fun K hK => ?_) ?_
            · skip
              go_simp
              refine (A4.out _).mono ?_
              rintro e w2 ⟨rfl, hb⟩
              go_wp2_with (fail)
              refine hK.out _ _ ?_ (fun hHeld2 => ?_)
              · exact sn_below hb hHeld
              clear hK K hHeld
              have hHeld := hHeld2
              clear hHeld2
              (try simp only [Act.put, List.setIfInBounds_toArray, List.set_cons_zero, List.set_cons_succ])
              refine reg_take (i := 12) (oi := _) (v := ?_) rfl (by kernel_rfl) (by kernel_rfl) (by kernel_rfl) (fun _ _ _ h => h) (by rfl) ?_ (by assumption) ?_
              rotate_left
              · intro w hSw; (try dsimp only at hSw); go_simp; try with_reducible rfl
              (try simp only [Act.put, List.setIfInBounds_toArray, List.set_cons_zero, List.set_cons_succ])
              refine reg_take (i := 13) (oi := _) (v := ?_) rfl (by kernel_rfl) (by kernel_rfl) (by kernel_rfl) (fun _ _ _ h => h) (by rfl) ?_ (by assumption) ?_
              rotate_left
              · intro w hSw; (try dsimp only at hSw); go_simp; try with_reducible rfl
              (try simp only [Act.put, List.setIfInBounds_toArray, List.set_cons_zero, List.set_cons_succ])
              refine reg_take (i := 14) (oi := _) (v := ?_) rfl (by kernel_rfl) (by kernel_rfl) (by kernel_rfl) (fun _ _ _ h => h) (by rfl) ?_ (by assumption) ?_
              rotate_left
              · intro w hSw; (try dsimp only at hSw); go_simp; try with_reducible rfl
              (try simp only [Act.put, List.setIfInBounds_toArray, List.set_cons_zero, List.set_cons_succ])
              refine reg_take (i := 15) (oi := _) (v := ?_) rfl (by kernel_rfl) (by kernel_rfl) (by kernel_rfl) (fun _ _ _ h => h) (by rfl) ?_ (by assumption) ?_
              rotate_left
              · intro w hSw; (try dsimp only at hSw); go_simp; try with_reducible rfl
              (try simp only [Act.put, List.setIfInBounds_toArray, List.set_cons_zero, List.set_cons_succ])
              refine reg_take (i := 16) (oi := _) (v := ?_) rfl (by kernel_rfl) (by kernel_rfl) (by kernel_rfl) (fun _ _ _ h => h) (by rfl) ?_ (by assumption) ?_
              rotate_left
              · intro w hSw; (try dsimp only at hSw); go_simp; try with_reducible rfl
              (try simp only [Act.put, List.setIfInBounds_toArray, List.set_cons_zero, List.set_cons_succ])
              refine reg_take (i := 17) (oi := _) (v := ?_) rfl (by kernel_rfl) (by kernel_rfl) (by kernel_rfl) (fun _ _ _ h => h) (by rfl) ?_ (by assumption) ?_
              rotate_left
              · intro w hSw; (try dsimp only at hSw); go_simp; try with_reducible rfl
              (try simp only [Act.put, List.setIfInBounds_toArray, List.set_cons_zero, List.set_cons_succ])
              refine reg_take (i := 18) (oi := _) (v := ?_) rfl (by kernel_rfl) (by kernel_rfl) (by kernel_rfl) (fun _ _ _ h => h) (by rfl) ?_ (by assumption) ?_
              rotate_left
              · intro w hSw; (try dsimp only at hSw); go_simp; try with_reducible rfl
              (try simp only [Act.put, List.setIfInBounds_toArray, List.set_cons_zero, List.set_cons_succ])
              refine reg_take (i := 20) (oi := _) (v := ?_) rfl (by kernel_rfl) (by kernel_rfl) (by kernel_rfl) (fun _ _ _ h => h) (by rfl) ?_ (by assumption) ?_
              rotate_left
              · intro w hSw; (try dsimp only at hSw); go_simp; try with_reducible rfl
              (try simp only [Act.put, List.setIfInBounds_toArray, List.set_cons_zero, List.set_cons_succ])
              refine reg_take (i := 21) (oi := _) (v := ?_) rfl (by kernel_rfl) (by kernel_rfl) (by kernel_rfl) (fun _ _ _ h => h) (by rfl) ?_ (by assumption) ?_
              rotate_left
              · intro w hSw; (try dsimp only at hSw); go_simp; try with_reducible rfl
              (try simp only [Act.put, List.setIfInBounds_toArray, List.set_cons_zero, List.set_cons_succ])
              refine reg_take (i := 22) (oi := _) (v := ?_) rfl (by kernel_rfl) (by kernel_rfl) (by kernel_rfl) (fun _ _ _ h => h) (by rfl) ?_ (by assumption) ?_
              rotate_left
              · intro w hSw; (try dsimp only at hSw); go_simp; try with_reducible rfl
              (try simp only [Act.put, List.setIfInBounds_toArray, List.set_cons_zero, List.set_cons_succ])
              refine reg_take (i := 23) (oi := _) (v := ?_) rfl (by kernel_rfl) (by kernel_rfl) (by kernel_rfl) (fun _ _ _ h => h) (by rfl) ?_ (by assumption) ?_
              rotate_left
              · intro w hSw; (try dsimp only at hSw); go_simp; try with_reducible rfl
              (try simp only [Act.put, List.setIfInBounds_toArray, List.set_cons_zero, List.set_cons_succ])
              refine wpAnyH_ready (rs := [19]) (by kernel_rfl) (by simp) ?_
              refine reg_each (o := _) rfl (fun K hK => ?_) ?_
              · skip
                go_simp
                refine (A5.out _).mono ?_
                rintro e w2 ⟨rfl, rfl⟩
                go_wp2_with (fail)
                refine hK.out _ _ ?_ (fun hHeld2 => ?_)
                · exact hHeld
                clear hK K hHeld
                have hHeld := hHeld2
                clear hHeld2
                (try simp only [Act.put, List.setIfInBounds_toArray, List.set_cons_zero, List.set_cons_succ])
                refine wpAnyH_ready (rs := [24]) (by kernel_rfl) (by simp) ?_
                refine reg_each (o := _) rfl (fun K hK => ?_) ?_
                · skip
                  go_simp
                  refine (A6.out _).mono ?_
                  rintro e w2 ⟨rfl, hb⟩
                  go_wp2_with (fail)
                  refine hK.out _ _ ?_ (fun hHeld2 => ?_)
                  · exact sn_below hb hHeld
                  clear hK K hHeld
                  have hHeld := hHeld2
                  clear hHeld2
                  (try simp only [Act.put, List.setIfInBounds_toArray, List.set_cons_zero, List.set_cons_succ])
                  refine reg_take (i := 25) (oi := _) (v := ?_) rfl (by kernel_rfl) (by kernel_rfl) (by kernel_rfl) (fun _ _ _ h => h) (by rfl) ?_ (by assumption) ?_
                  rotate_left
                  · intro w hSw; (try dsimp only at hSw); go_simp; try with_reducible rfl
                  (try simp only [Act.put, List.setIfInBounds_toArray, List.set_cons_zero, List.set_cons_succ])
                  refine reg_take (i := 26) (oi := _) (v := ?_) rfl (by kernel_rfl) (by kernel_rfl) (by kernel_rfl) (fun _ _ _ h => h) (by rfl) ?_ (by assumption) ?_
                  rotate_left
                  · intro w hSw; (try dsimp only at hSw); go_simp; try with_reducible rfl
                  (try simp only [Act.put, List.setIfInBounds_toArray, List.set_cons_zero, List.set_cons_succ])
                  refine reg_take (i := 27) (oi := _) (v := ?_) rfl (by kernel_rfl) (by kernel_rfl) (by kernel_rfl) (fun _ _ _ h => h) (by rfl) ?_ (by assumption) ?_
                  rotate_left
                  · intro w hSw; (try dsimp only at hSw); go_simp; try with_reducible rfl
                  (try simp only [Act.put, List.setIfInBounds_toArray, List.set_cons_zero, List.set_cons_succ])
                  refine reg_take (i := 28) (oi := _) (v := ?_) rfl (by kernel_rfl) (by kernel_rfl) (by kernel_rfl) (fun _ _ _ h => h) (by rfl) ?_ (by assumption) ?_
                  rotate_left
                  · intro w hSw; (try dsimp only at hSw); go_simp; try with_reducible rfl
                  (try simp only [Act.put, List.setIfInBounds_toArray, List.set_cons_zero, List.set_cons_succ])
                  refine reg_take (i := 29) (oi := _) (v := ?_) rfl (by kernel_rfl) (by kernel_rfl) (by kernel_rfl) (fun _ _ _ h => h) (by rfl) ?_ (by assumption) ?_
                  rotate_left
                  · intro w hSw; (try dsimp only at hSw); go_simp; try with_reducible rfl
                  (try simp only [Act.put, List.setIfInBounds_toArray, List.set_cons_zero, List.set_cons_succ])
                  refine reg_take (i := 31) (oi := _) (v := ?_) rfl (by kernel_rfl) (by kernel_rfl) (by kernel_rfl) (fun _ _ _ h => h) (by rfl) ?_ (by assumption) ?_
                  rotate_left
                  · intro w hSw; (try dsimp only at hSw); go_simp; try with_reducible rfl
                  (try simp only [Act.put, List.setIfInBounds_toArray, List.set_cons_zero, List.set_cons_succ])
                  refine wpAnyH_ready (rs := [30]) (by kernel_rfl) (by simp) ?_
                  refine reg_each (o := _) rfl (fun K hK => ?_) ?_
                  · skip
                    go_simp
                    refine (A7.out _ hHeld.2.2.1).mono ?_
                    rintro e w2 ⟨rfl, rfl⟩
                    go_wp2_with (fail)
                    refine hK.out _ _ ?_ (fun hHeld2 => ?_)
                    · exact hHeld
                    clear hK K hHeld
                    have hHeld := hHeld2
                    clear hHeld2
                    (try simp only [Act.put, List.setIfInBounds_toArray, List.set_cons_zero, List.set_cons_succ])
                    refine reg_take (i := 32) (oi := _) (v := ?_) rfl (by kernel_rfl) (by kernel_rfl) (by kernel_rfl) (fun _ _ _ h => h) (by rfl) ?_ (by assumption) ?_
                    rotate_left
                    · intro w hSw; (try dsimp only at hSw); go_simp; try with_reducible rfl
                    (try simp only [Act.put, List.setIfInBounds_toArray, List.set_cons_zero, List.set_cons_succ])
                    refine reg_take (i := 33) (oi := _) (v := ?_) rfl (by kernel_rfl) (by kernel_rfl) (by kernel_rfl) (fun _ _ _ h => h) (by rfl) ?_ (by assumption) ?_
                    rotate_left
                    · intro w hSw; (try dsimp only at hSw); go_simp; try with_reducible rfl
                    (try simp only [Act.put, List.setIfInBounds_toArray, List.set_cons_zero, List.set_cons_succ])
                    refine reg_take (i := 34) (oi := _) (v := ?_) rfl (by kernel_rfl) (by kernel_rfl) (by kernel_rfl) (fun _ _ _ h => h) (by rfl) ?_ (by assumption) ?_
                    rotate_left
                    · intro w hSw; (try dsimp only at hSw); go_simp; try with_reducible rfl
                    (try simp only [Act.put, List.setIfInBounds_toArray, List.set_cons_zero, List.set_cons_succ])
                    refine wpAnyH_ready (rs := [35]) (by kernel_rfl) (by simp) ?_
                    refine reg_each (o := _) rfl (fun K hK => ?_) ?_
                    · skip
                      go_simp
                      refine (sure_walk _ hHeld.2.2.1).mono ?_
                      rintro e w2 ⟨rfl, hb⟩
                      go_wp2_with (fail)
                      refine hK.out _ _ ?_ (fun hHeld2 => ?_)
                      · exact sn_below hb hHeld
                      clear hK K hHeld
                      have hHeld := hHeld2
                      clear hHeld2
                      (try simp only [Act.put, List.setIfInBounds_toArray, List.set_cons_zero, List.set_cons_succ])
                      refine reg_take (i := 36) (oi := _) (v := ?_) rfl (by kernel_rfl) (by kernel_rfl) (by kernel_rfl) (fun _ _ _ h => h) (by rfl) ?_ (by assumption) ?_
                      rotate_left
                      · intro w hSw; (try dsimp only at hSw); go_simp; try with_reducible rfl
                      (try simp only [Act.put, List.setIfInBounds_toArray, List.set_cons_zero, List.set_cons_succ])
                      refine reg_take (i := 37) (oi := _) (v := ?_) rfl (by kernel_rfl) (by kernel_rfl) (by kernel_rfl) (fun _ _ _ h => h) (by rfl) ?_ (by assumption) ?_
                      rotate_left
                      · intro w hSw; (try dsimp only at hSw); go_simp; try with_reducible rfl
                      (try simp only [Act.put, List.setIfInBounds_toArray, List.set_cons_zero, List.set_cons_succ])
                      refine wpAnyH_done (by kernel_rfl) ?_ _
                      refine NoPanic.normal ?_
                      go_wp2
                      go_ret
                      exact ⟨rfl, hHeld.2.2.2.1⟩
                    exact AllReadyH.nil
                  exact AllReadyH.nil
                exact AllReadyH.nil
              exact AllReadyH.nil
            exact AllReadyH.nil
          exact AllReadyH.nil
        exact AllReadyH.nil
      exact AllReadyH.nil
end Go.Proofs.YtjffciejoahegaaDoor
