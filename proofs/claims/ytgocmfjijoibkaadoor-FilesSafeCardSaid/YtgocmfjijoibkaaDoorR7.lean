/- The document's Try. -/
import Derived.Test.YtgocmfjijoibkaaDoorR6
namespace Go.Proofs.YtgocmfjijoibkaaDoor
open Go.RowKit
set_option linter.unusedSimpArgs false
set_option linter.unusedVariables false
set_option linter.unusedVariables false
def tryN (x : FS) (n t b : List UInt8) (wr rm : Bool) : Int :=
  if namedF n = false then 11 else if (wr = false ∧ rm = false) ∧ namedF t = false then 11
  else if wr = true then (if 65536 < b.length then 2 else if (lookF x.now n).isNone = true ∧ 64 ≤ x.now.length then 10 else if 4096 ≤ x.T.length then 10 else 0)
  else if (lookF x.now n).isNone = true then 8 else if 4096 ≤ x.T.length then 10 else 0
def TryD (x : FS) (c : Int) (x' : FS) (w : World) (y : Ending) (w' : World) : Prop := ∃ v', y = .returned (.tuple #[v', .int .i64 c]) ∧ Doc w' v' x' ∧ Below w.heap.size w w'
def TryS (x : FS) (n t b : List UInt8) (sv : Value) (wr rm : Bool) : FS := ⟨doF x.now ⟨⟨n.toArray⟩, ⟨t.toArray⟩, sv, b, wr, rm⟩, x.sure, x.T ++ [⟨⟨n.toArray⟩, ⟨t.toArray⟩, sv, b, wr, rm⟩]⟩
theorem below_set3 {B p : Nat} {w w1 : World} {a b c : Value} (h : Below B w w1) (hp : B ≤ p) : Below B w (((w1.setCell ⟨p, 0, none⟩ a).setCell ⟨p, 1, none⟩ b).setCell ⟨p, 2, none⟩ c) :=
  h.trans ⟨rfl, rfl, rfl, by simp, fun q hq => by rw [Below.heap_setCell _ _ _ q (by show q ≠ p; omega), Below.heap_setCell _ _ _ q (by show q ≠ p; omega), Below.heap_setCell _ _ _ q (by show q ≠ p; omega)]⟩
def TryX (x : FS) (n t b : List UInt8) (sv : Value) (wr rm : Bool) : FS := if tryN x n t b wr rm = 0 then TryS x n t b sv wr rm else x
set_option maxHeartbeats 16000000 in
set_option maxRecDepth 100000 in
theorem doctry_walk (v : Value) (x : FS) (n t b : List UInt8) (sv : Value) (wr rm : Bool) (w : World) (h : Doc w v x) (hF : x.now.length ≤ 64) (hT : x.T.length ≤ 4096) (hn63 : n.length ≤ 9223372036854775807) (ht63 : t.length ≤ 9223372036854775807) :
    Calls Tryd.prog 32 #[v, .agg #[.int .i64 (kindS ⟨⟨n.toArray⟩, ⟨t.toArray⟩, sv, b, wr, rm⟩), .string ⟨n.toArray⟩, .string ⟨t.toArray⟩, .string ⟨b.toArray⟩]] w (TryD x (tryN x n t b wr rm) (TryX x n t b sv wr rm) w) := by
  obtain ⟨v1, v2, v3, rfl, h1, h2, h3⟩ := h
  obtain ⟨A1, k1, rfl⟩ := h1.form
  obtain ⟨A2, k2, rfl⟩ := h2.form
  obtain ⟨A3, k3, rfl⟩ := h3.form
  generalize hk : kindS ⟨⟨n.toArray⟩, ⟨t.toArray⟩, sv, b, wr, rm⟩ = k
  have b1 := (Below.refl w.heap.size w).alloc (Nat.le_refl _) (.cells #[.slice A1 x.now.length k1, .slice A2 x.sure.length k2, .slice A3 x.T.length k3] 41)
  have b2 := b1.alloc b1.size (.cells #[.int .i64 k, .string ⟨n.toArray⟩, .string ⟨t.toArray⟩, .string ⟨b.toArray⟩] 79)
  have b3 := b2.alloc b2.size (.cells #[.slice none 0 0, .slice none 0 0, .slice none 0 0] 41)
  have z1 := (w.size_alloc (.cells #[.slice A1 x.now.length k1, .slice A2 x.sure.length k2, .slice A3 x.T.length k3] 41))
  have z2 := ((w.alloc (.cells #[.slice A1 x.now.length k1, .slice A2 x.sure.length k2, .slice A3 x.T.length k3] 41)).size_alloc (.cells #[.int .i64 k, .string ⟨n.toArray⟩, .string ⟨t.toArray⟩, .string ⟨b.toArray⟩] 79))
  have kD := ((Blk.new w 41 #[.slice A1 x.now.length k1, .slice A2 x.sure.length k2, .slice A3 x.T.length k3]).alloc (.cells #[.int .i64 k, .string ⟨n.toArray⟩, .string ⟨t.toArray⟩, .string ⟨b.toArray⟩] 79)).alloc (.cells #[.slice none 0 0, .slice none 0 0, .slice none 0 0] 41)
  have kS := (Blk.new (w.alloc (.cells #[.slice A1 x.now.length k1, .slice A2 x.sure.length k2, .slice A3 x.T.length k3] 41)) 79 #[.int .i64 k, .string ⟨n.toArray⟩, .string ⟨t.toArray⟩, .string ⟨b.toArray⟩]).alloc (.cells #[.slice none 0 0, .slice none 0 0, .slice none 0 0] 41)
  have kZ := Blk.new ((w.alloc (.cells #[.slice A1 x.now.length k1, .slice A2 x.sure.length k2, .slice A3 x.T.length k3] 41)).alloc (.cells #[.int .i64 k, .string ⟨n.toArray⟩, .string ⟨t.toArray⟩, .string ⟨b.toArray⟩] 79)) 41 #[.slice none 0 0, .slice none 0 0, .slice none 0 0]
  rw [z1] at kS
  rw [z2, z1] at kZ
  have HBZ := Lib.hid b3
  have HKD := Lib.hid kD
  have HKS := Lib.hid kS
  have HKZ := Lib.hid kZ
  have k0 := KeptY.below b3
  have H1 := Lib.hid (h1.kept k0)
  have H2 := Lib.hid (h2.kept k0)
  have H3 := Lib.hid (h3.kept k0)
  clear h1 h2 h3 b1 b2 b3 z1 z2 kD kS kZ k0
  cases wr with
  | true =>
    have hk0 : k = 0 := by rw [← hk]; rfl
    subst hk0
    clear hk
    go_enter Tryd.func32, Tryd.ntmps32
    go_upto_region 1 with (fail)
    generalize ((w.alloc (.cells #[.slice A1 x.now.length k1, .slice A2 x.sure.length k2, .slice A3 x.T.length k3] 41)).alloc (.cells #[.int .i64 0, .string ⟨n.toArray⟩, .string ⟨t.toArray⟩, .string ⟨b.toArray⟩] 79)).alloc (.cells #[.slice none 0 0, .slice none 0 0, .slice none 0 0] 41) = w1 at *
    generalize hp : w.heap.size = p at *
    have HP := Lib.hid hp
    clear hp
    have HBW := Lib.hid (Below.refl w1.heap.size w1)
    have kD := HKD.out.below HBW.out
    have kS := HKS.out.below HBW.out
    have kZ := HKZ.out.below HBW.out
    have d0 : w1.cell? ⟨p, 0, none⟩ = some (.slice A1 x.now.length k1) := by rw [kD.cell]; rfl
    have d1 : w1.cell? ⟨p, 1, none⟩ = some (.slice A2 x.sure.length k2) := by rw [kD.cell]; rfl
    have d2 : w1.cell? ⟨p, 2, none⟩ = some (.slice A3 x.T.length k3) := by rw [kD.cell]; rfl
    have s0 : w1.cell? ⟨p + 1, 0, none⟩ = some (.int .i64 0) := by rw [kS.cell]; rfl
    have s1 : w1.cell? ⟨p + 1, 1, none⟩ = some (.string ⟨n.toArray⟩) := by rw [kS.cell]; rfl
    have s2 : w1.cell? ⟨p + 1, 2, none⟩ = some (.string ⟨t.toArray⟩) := by rw [kS.cell]; rfl
    have s3 : w1.cell? ⟨p + 1, 3, none⟩ = some (.string ⟨b.toArray⟩) := by rw [kS.cell]; rfl
    have y0 : w1.cell? ⟨p + 2, 0, none⟩ = some (.slice none 0 0) := by rw [kZ.cell]; rfl
    have f0 := kZ.frozen 0
    have y1 : w1.cell? ⟨p + 2, 1, none⟩ = some (.slice none 0 0) := by rw [kZ.cell]; rfl
    have f1 := kZ.frozen 1
    have y2 : w1.cell? ⟨p + 2, 2, none⟩ = some (.slice none 0 0) := by rw [kZ.cell]; rfl
    have f2 := kZ.frozen 2
    have zD := kD.lt
    have zS := kS.lt
    have zZ := kZ.lt
    clear kD kS kZ
    have NW := docnamed_walk ⟨n.toArray⟩ hn63 w1
    go_wp2_with (fail)
    refine Calls.mono NW ?_
    rintro y w2 ⟨rfl, hb⟩
    have HB2 := Lib.hid (below_trans HBW.out hb)
    rw [show (ByteArray.mk n.toArray).data.toList = n from rfl]
    clear NW hb HBW d0 d1 d2 s0 s1 s2 s3 y0 y1 y2 f0 f1 f2 zD zS zZ
    have HBW := HB2
    clear HB2
    cases hnn : namedF n with
    | false =>
      have kD := HKD.out.below HBW.out
      have kS := HKS.out.below HBW.out
      have kZ := HKZ.out.below HBW.out
      have d0 : w2.cell? ⟨p, 0, none⟩ = some (.slice A1 x.now.length k1) := by rw [kD.cell]; rfl
      have d1 : w2.cell? ⟨p, 1, none⟩ = some (.slice A2 x.sure.length k2) := by rw [kD.cell]; rfl
      have d2 : w2.cell? ⟨p, 2, none⟩ = some (.slice A3 x.T.length k3) := by rw [kD.cell]; rfl
      have s0 : w2.cell? ⟨p + 1, 0, none⟩ = some (.int .i64 0) := by rw [kS.cell]; rfl
      have s1 : w2.cell? ⟨p + 1, 1, none⟩ = some (.string ⟨n.toArray⟩) := by rw [kS.cell]; rfl
      have s2 : w2.cell? ⟨p + 1, 2, none⟩ = some (.string ⟨t.toArray⟩) := by rw [kS.cell]; rfl
      have s3 : w2.cell? ⟨p + 1, 3, none⟩ = some (.string ⟨b.toArray⟩) := by rw [kS.cell]; rfl
      have y0 : w2.cell? ⟨p + 2, 0, none⟩ = some (.slice none 0 0) := by rw [kZ.cell]; rfl
      have f0 := kZ.frozen 0
      have y1 : w2.cell? ⟨p + 2, 1, none⟩ = some (.slice none 0 0) := by rw [kZ.cell]; rfl
      have f1 := kZ.frozen 1
      have y2 : w2.cell? ⟨p + 2, 2, none⟩ = some (.slice none 0 0) := by rw [kZ.cell]; rfl
      have f2 := kZ.frozen 2
      have zD := kD.lt
      have zS := kS.lt
      have zZ := kZ.lt
      clear kD kS kZ
      have HC := Lib.hid (show tryN x n t b true rm = 11 from by unfold tryN; rw [if_pos hnn])
      have HXX := Lib.hid (show TryX x n t b sv true rm = x from if_neg (by rw [HC.out]; decide))
      go_wp2_with (fail)
      have kZ0 := HKZ.out.below HBW.out
      have kZ1 := kZ0.put 0 (.slice A1 x.now.length k1) rfl
      have kZ2 := kZ1.put 1 (.slice A2 x.sure.length k2) rfl
      have kZ3 := kZ2.put 2 (.slice A3 x.T.length k3) rfl
      have KK := ((KeptD.of (KeptY.below HBW.out)).trans (KeptD.set kZ0 0 (.slice A1 x.now.length k1))).trans ((KeptD.set kZ1 1 (.slice A2 x.sure.length k2)).trans (KeptD.set kZ2 2 (.slice A3 x.T.length k3)))
      rw [HC.out, HXX.out]
      refine bodyPost_end (results_ct_row rfl _ _ (p + 2) _ _ _ _ rfl kZ3) rfl ⟨_, rfl, ?_, ?_⟩
      · exact ⟨_, _, _, rfl, H1.out.keptD KK, H2.out.keptD KK, H3.out.keptD KK⟩
      · rw [HP.out]
        exact below_set3 (HBZ.out.trans (HBW.out.mono (by have := HKD.out.lt; omega))) (by omega)
    | true =>
      by_cases hb6 : 65536 < b.length
      · have hb6' : (65536 : Int) < (b.length : Int) := by omega
        have kD := HKD.out.below HBW.out
        have kS := HKS.out.below HBW.out
        have kZ := HKZ.out.below HBW.out
        have d0 : w2.cell? ⟨p, 0, none⟩ = some (.slice A1 x.now.length k1) := by rw [kD.cell]; rfl
        have d1 : w2.cell? ⟨p, 1, none⟩ = some (.slice A2 x.sure.length k2) := by rw [kD.cell]; rfl
        have d2 : w2.cell? ⟨p, 2, none⟩ = some (.slice A3 x.T.length k3) := by rw [kD.cell]; rfl
        have s0 : w2.cell? ⟨p + 1, 0, none⟩ = some (.int .i64 0) := by rw [kS.cell]; rfl
        have s1 : w2.cell? ⟨p + 1, 1, none⟩ = some (.string ⟨n.toArray⟩) := by rw [kS.cell]; rfl
        have s2 : w2.cell? ⟨p + 1, 2, none⟩ = some (.string ⟨t.toArray⟩) := by rw [kS.cell]; rfl
        have s3 : w2.cell? ⟨p + 1, 3, none⟩ = some (.string ⟨b.toArray⟩) := by rw [kS.cell]; rfl
        have y0 : w2.cell? ⟨p + 2, 0, none⟩ = some (.slice none 0 0) := by rw [kZ.cell]; rfl
        have f0 := kZ.frozen 0
        have y1 : w2.cell? ⟨p + 2, 1, none⟩ = some (.slice none 0 0) := by rw [kZ.cell]; rfl
        have f1 := kZ.frozen 1
        have y2 : w2.cell? ⟨p + 2, 2, none⟩ = some (.slice none 0 0) := by rw [kZ.cell]; rfl
        have f2 := kZ.frozen 2
        have zD := kD.lt
        have zS := kS.lt
        have zZ := kZ.lt
        clear kD kS kZ
        have HC := Lib.hid (show tryN x n t b true rm = 2 from by unfold tryN; rw [if_neg (by rw [hnn]; decide), if_neg (by simp), if_pos rfl, if_pos hb6])
        have HXX := Lib.hid (show TryX x n t b sv true rm = x from if_neg (by rw [HC.out]; decide))
        go_wp2_with (fail)
        have kZ0 := HKZ.out.below HBW.out
        have kZ1 := kZ0.put 0 (.slice A1 x.now.length k1) rfl
        have kZ2 := kZ1.put 1 (.slice A2 x.sure.length k2) rfl
        have kZ3 := kZ2.put 2 (.slice A3 x.T.length k3) rfl
        have KK := ((KeptD.of (KeptY.below HBW.out)).trans (KeptD.set kZ0 0 (.slice A1 x.now.length k1))).trans ((KeptD.set kZ1 1 (.slice A2 x.sure.length k2)).trans (KeptD.set kZ2 2 (.slice A3 x.T.length k3)))
        rw [HC.out, HXX.out]
        refine bodyPost_end (results_ct_row rfl _ _ (p + 2) _ _ _ _ rfl kZ3) rfl ⟨_, rfl, ?_, ?_⟩
        · exact ⟨_, _, _, rfl, H1.out.keptD KK, H2.out.keptD KK, H3.out.keptD KK⟩
        · rw [HP.out]
          exact below_set3 (HBZ.out.trans (HBW.out.mono (by have := HKD.out.lt; omega))) (by omega)
      · have hb6' : ¬ (65536 : Int) < (b.length : Int) := by omega
        have kD := HKD.out.below HBW.out
        have kS := HKS.out.below HBW.out
        have kZ := HKZ.out.below HBW.out
        have d0 : w2.cell? ⟨p, 0, none⟩ = some (.slice A1 x.now.length k1) := by rw [kD.cell]; rfl
        have d1 : w2.cell? ⟨p, 1, none⟩ = some (.slice A2 x.sure.length k2) := by rw [kD.cell]; rfl
        have d2 : w2.cell? ⟨p, 2, none⟩ = some (.slice A3 x.T.length k3) := by rw [kD.cell]; rfl
        have s0 : w2.cell? ⟨p + 1, 0, none⟩ = some (.int .i64 0) := by rw [kS.cell]; rfl
        have s1 : w2.cell? ⟨p + 1, 1, none⟩ = some (.string ⟨n.toArray⟩) := by rw [kS.cell]; rfl
        have s2 : w2.cell? ⟨p + 1, 2, none⟩ = some (.string ⟨t.toArray⟩) := by rw [kS.cell]; rfl
        have s3 : w2.cell? ⟨p + 1, 3, none⟩ = some (.string ⟨b.toArray⟩) := by rw [kS.cell]; rfl
        have y0 : w2.cell? ⟨p + 2, 0, none⟩ = some (.slice none 0 0) := by rw [kZ.cell]; rfl
        have f0 := kZ.frozen 0
        have y1 : w2.cell? ⟨p + 2, 1, none⟩ = some (.slice none 0 0) := by rw [kZ.cell]; rfl
        have f1 := kZ.frozen 1
        have y2 : w2.cell? ⟨p + 2, 2, none⟩ = some (.slice none 0 0) := by rw [kZ.cell]; rfl
        have f2 := kZ.frozen 2
        have zD := kD.lt
        have zS := kS.lt
        have zZ := kZ.lt
        clear kD kS kZ
        have FW := find_walk _ x.now n w2 (H1.out.kept (KeptY.below HBW.out)) hF
        go_wp2_with (fail)
        refine Calls.mono FW ?_
        rintro y w3 ⟨r, rfl, rfl, hr⟩
        clear FW
        rcases hr with ⟨rfl, hl⟩ | ⟨q, f, rfl, _, _, hl⟩
        · skip
          by_cases hf6 : 64 ≤ x.now.length
          · have hf6' : (64 : Int) ≤ (x.now.length : Int) := by omega
            have HC := Lib.hid (show tryN x n t b true rm = 10 from by unfold tryN; rw [if_neg (by rw [hnn]; decide), if_neg (by simp), if_pos rfl, if_neg hb6, if_pos ⟨by rw [hl]; rfl, hf6⟩])
            have HXX := Lib.hid (show TryX x n t b sv true rm = x from if_neg (by rw [HC.out]; decide))
            go_wp2_with (fail)
            have kZ0 := HKZ.out.below HBW.out
            have kZ1 := kZ0.put 0 (.slice A1 x.now.length k1) rfl
            have kZ2 := kZ1.put 1 (.slice A2 x.sure.length k2) rfl
            have kZ3 := kZ2.put 2 (.slice A3 x.T.length k3) rfl
            have KK := ((KeptD.of (KeptY.below HBW.out)).trans (KeptD.set kZ0 0 (.slice A1 x.now.length k1))).trans ((KeptD.set kZ1 1 (.slice A2 x.sure.length k2)).trans (KeptD.set kZ2 2 (.slice A3 x.T.length k3)))
            rw [HC.out, HXX.out]
            refine bodyPost_end (results_ct_row rfl _ _ (p + 2) _ _ _ _ rfl kZ3) rfl ⟨_, rfl, ?_, ?_⟩
            · exact ⟨_, _, _, rfl, H1.out.keptD KK, H2.out.keptD KK, H3.out.keptD KK⟩
            · rw [HP.out]
              exact below_set3 (HBZ.out.trans (HBW.out.mono (by have := HKD.out.lt; omega))) (by omega)
          · have hf6' : ¬ (64 : Int) ≤ (x.now.length : Int) := by omega
            by_cases hT2 : 4096 ≤ x.T.length
            · have hT2' : (4096 : Int) ≤ (x.T.length : Int) := by omega
              have HC := Lib.hid (show tryN x n t b true rm = 10 from by unfold tryN; rw [if_neg (by rw [hnn]; decide), if_neg (by simp), if_pos rfl, if_neg hb6, if_neg (fun h => hf6 h.2), if_pos hT2])
              have HXX := Lib.hid (show TryX x n t b sv true rm = x from if_neg (by rw [HC.out]; decide))
              go_wp2_with (fail)
              have kZ0 := HKZ.out.below HBW.out
              have kZ1 := kZ0.put 0 (.slice A1 x.now.length k1) rfl
              have kZ2 := kZ1.put 1 (.slice A2 x.sure.length k2) rfl
              have kZ3 := kZ2.put 2 (.slice A3 x.T.length k3) rfl
              have KK := ((KeptD.of (KeptY.below HBW.out)).trans (KeptD.set kZ0 0 (.slice A1 x.now.length k1))).trans ((KeptD.set kZ1 1 (.slice A2 x.sure.length k2)).trans (KeptD.set kZ2 2 (.slice A3 x.T.length k3)))
              rw [HC.out, HXX.out]
              refine bodyPost_end (results_ct_row rfl _ _ (p + 2) _ _ _ _ rfl kZ3) rfl ⟨_, rfl, ?_, ?_⟩
              · exact ⟨_, _, _, rfl, H1.out.keptD KK, H2.out.keptD KK, H3.out.keptD KK⟩
              · rw [HP.out]
                exact below_set3 (HBZ.out.trans (HBW.out.mono (by have := HKD.out.lt; omega))) (by omega)
            · have hT2' : ¬ (4096 : Int) ≤ (x.T.length : Int) := by omega
              have HC := Lib.hid (show tryN x n t b true rm = 0 from by unfold tryN; rw [if_neg (by rw [hnn]; decide), if_neg (by simp), if_pos rfl, if_neg hb6, if_neg (fun h => hf6 h.2), if_neg hT2])
              have HXX := Lib.hid (show TryX x n t b sv true rm = TryS x n t b sv true rm from if_pos HC.out)
              have HS0 := Lib.hid (show S13 p (.slice A1 x.now.length k1) (.slice A2 x.sure.length k2) (.slice A3 x.T.length k3) (.int .i64 0) (.string ⟨n.toArray⟩) (.string ⟨t.toArray⟩) (.string ⟨b.toArray⟩) w3 from ⟨HKD.out.below HBW.out, HKS.out.below HBW.out⟩)
              have HW1 := Lib.hid (H1.out.kept (KeptY.below HBW.out))
              have HW2 := Lib.hid (H2.out.kept (KeptY.below HBW.out))
              have HW3 := Lib.hid (H3.out.kept (KeptY.below HBW.out))
              have HWZ := Lib.hid (HKZ.out.below HBW.out)
              have HWB := Lib.hid (show Below w.heap.size w w3 by rw [HP.out]; exact HBZ.out.trans (HBW.out.mono (by have := HKD.out.lt; omega)))
              have HPW := Lib.hid (show p + 2 < w3.heap.size from HWZ.out.lt)
              have DO := Lib.hid (fun (w' : World) (hb : Below w3.heap.size w3 w') => docdo_walk (.slice A1 x.now.length k1) x.now n t b sv true rm w' (HW1.out.kept (KeptY.below hb)) hF (fun h => by cases h))
              skip
              go_upto_region 13 with (fail)
              clear HKD HKS HKZ HBW H1 H2 H3 HBZ d0 d1 d2 s0 s1 s2 s3 y0 y1 y2 f0 f1 f2 zD zS zZ
              refine wp_region_noPanic ?_
              refine wp_region_held_drew (S := (fun w' => S13 p (.slice A1 x.now.length k1) (.slice A2 x.sure.length k2) (.slice A3 x.T.length k3) (.int .i64 0) (.string ⟨n.toArray⟩) (.string ⟨t.toArray⟩) (.string ⟨b.toArray⟩) w')) (by kernel_rfl) ?_ (fun hHeld => ?_)
              · exact HS0.out
              have BD := Lib.hid (show Below w3.heap.size w3 w3.drew from below_drewN (Below.refl _ _) 1)
              generalize w3.drew = wd at *
              refine reg_take (i := 0) (oi := _) (v := ?_) rfl (by kernel_rfl) (by kernel_rfl) (by kernel_rfl) (fun _ _ _ h => h) (by rfl) ?_ (by assumption) ?_
              rotate_left
              · intro w hSw; (try dsimp only at hSw); have d0 : w.cell? ⟨p, 0, none⟩ = some (.slice A1 x.now.length k1) := (by rw [hSw.1.cell]; rfl); have d1 : w.cell? ⟨p, 1, none⟩ = some (.slice A2 x.sure.length k2) := (by rw [hSw.1.cell]; rfl); have d2 : w.cell? ⟨p, 2, none⟩ = some (.slice A3 x.T.length k3) := (by rw [hSw.1.cell]; rfl); have s0 : w.cell? ⟨p + 1, 0, none⟩ = some (.int .i64 0) := (by rw [hSw.2.cell]; rfl); have s1 : w.cell? ⟨p + 1, 1, none⟩ = some (.string ⟨n.toArray⟩) := (by rw [hSw.2.cell]; rfl); have s2 : w.cell? ⟨p + 1, 2, none⟩ = some (.string ⟨t.toArray⟩) := (by rw [hSw.2.cell]; rfl); have s3 : w.cell? ⟨p + 1, 3, none⟩ = some (.string ⟨b.toArray⟩) := (by rw [hSw.2.cell]; rfl); have zD := hSw.1.lt; have zS := hSw.2.lt; go_simp; try with_reducible rfl
              (try simp only [Act.put, List.setIfInBounds_toArray, List.set_cons_zero, List.set_cons_succ])
              refine reg_take (i := 1) (oi := _) (v := ?_) rfl (by kernel_rfl) (by kernel_rfl) (by kernel_rfl) (fun _ _ _ h => h) (by rfl) ?_ (by assumption) ?_
              rotate_left
              · intro w hSw; (try dsimp only at hSw); have d0 : w.cell? ⟨p, 0, none⟩ = some (.slice A1 x.now.length k1) := (by rw [hSw.1.cell]; rfl); have d1 : w.cell? ⟨p, 1, none⟩ = some (.slice A2 x.sure.length k2) := (by rw [hSw.1.cell]; rfl); have d2 : w.cell? ⟨p, 2, none⟩ = some (.slice A3 x.T.length k3) := (by rw [hSw.1.cell]; rfl); have s0 : w.cell? ⟨p + 1, 0, none⟩ = some (.int .i64 0) := (by rw [hSw.2.cell]; rfl); have s1 : w.cell? ⟨p + 1, 1, none⟩ = some (.string ⟨n.toArray⟩) := (by rw [hSw.2.cell]; rfl); have s2 : w.cell? ⟨p + 1, 2, none⟩ = some (.string ⟨t.toArray⟩) := (by rw [hSw.2.cell]; rfl); have s3 : w.cell? ⟨p + 1, 3, none⟩ = some (.string ⟨b.toArray⟩) := (by rw [hSw.2.cell]; rfl); have zD := hSw.1.lt; have zS := hSw.2.lt; go_simp; try with_reducible rfl
              (try simp only [Act.put, List.setIfInBounds_toArray, List.set_cons_zero, List.set_cons_succ])
              refine reg_take (i := 2) (oi := _) (v := ?_) rfl (by kernel_rfl) (by kernel_rfl) (by kernel_rfl) (fun _ _ _ h => h) (by rfl) ?_ (by assumption) ?_
              rotate_left
              · intro w hSw; (try dsimp only at hSw); have d0 : w.cell? ⟨p, 0, none⟩ = some (.slice A1 x.now.length k1) := (by rw [hSw.1.cell]; rfl); have d1 : w.cell? ⟨p, 1, none⟩ = some (.slice A2 x.sure.length k2) := (by rw [hSw.1.cell]; rfl); have d2 : w.cell? ⟨p, 2, none⟩ = some (.slice A3 x.T.length k3) := (by rw [hSw.1.cell]; rfl); have s0 : w.cell? ⟨p + 1, 0, none⟩ = some (.int .i64 0) := (by rw [hSw.2.cell]; rfl); have s1 : w.cell? ⟨p + 1, 1, none⟩ = some (.string ⟨n.toArray⟩) := (by rw [hSw.2.cell]; rfl); have s2 : w.cell? ⟨p + 1, 2, none⟩ = some (.string ⟨t.toArray⟩) := (by rw [hSw.2.cell]; rfl); have s3 : w.cell? ⟨p + 1, 3, none⟩ = some (.string ⟨b.toArray⟩) := (by rw [hSw.2.cell]; rfl); have zD := hSw.1.lt; have zS := hSw.2.lt; go_simp; try with_reducible rfl
              (try simp only [Act.put, List.setIfInBounds_toArray, List.set_cons_zero, List.set_cons_succ])
              refine reg_take (i := 4) (oi := _) (v := ?_) rfl (by kernel_rfl) (by kernel_rfl) (by kernel_rfl) (fun _ _ _ h => h) (by rfl) ?_ (by assumption) ?_
              rotate_left
              · intro w hSw; (try dsimp only at hSw); have d0 : w.cell? ⟨p, 0, none⟩ = some (.slice A1 x.now.length k1) := (by rw [hSw.1.cell]; rfl); have d1 : w.cell? ⟨p, 1, none⟩ = some (.slice A2 x.sure.length k2) := (by rw [hSw.1.cell]; rfl); have d2 : w.cell? ⟨p, 2, none⟩ = some (.slice A3 x.T.length k3) := (by rw [hSw.1.cell]; rfl); have s0 : w.cell? ⟨p + 1, 0, none⟩ = some (.int .i64 0) := (by rw [hSw.2.cell]; rfl); have s1 : w.cell? ⟨p + 1, 1, none⟩ = some (.string ⟨n.toArray⟩) := (by rw [hSw.2.cell]; rfl); have s2 : w.cell? ⟨p + 1, 2, none⟩ = some (.string ⟨t.toArray⟩) := (by rw [hSw.2.cell]; rfl); have s3 : w.cell? ⟨p + 1, 3, none⟩ = some (.string ⟨b.toArray⟩) := (by rw [hSw.2.cell]; rfl); have zD := hSw.1.lt; have zS := hSw.2.lt; go_simp; try with_reducible rfl
              (try simp only [Act.put, List.setIfInBounds_toArray, List.set_cons_zero, List.set_cons_succ])
              refine reg_take (i := 5) (oi := _) (v := ?_) rfl (by kernel_rfl) (by kernel_rfl) (by kernel_rfl) (fun _ _ _ h => h) (by rfl) ?_ (by assumption) ?_
              rotate_left
              · intro w hSw; (try dsimp only at hSw); have d0 : w.cell? ⟨p, 0, none⟩ = some (.slice A1 x.now.length k1) := (by rw [hSw.1.cell]; rfl); have d1 : w.cell? ⟨p, 1, none⟩ = some (.slice A2 x.sure.length k2) := (by rw [hSw.1.cell]; rfl); have d2 : w.cell? ⟨p, 2, none⟩ = some (.slice A3 x.T.length k3) := (by rw [hSw.1.cell]; rfl); have s0 : w.cell? ⟨p + 1, 0, none⟩ = some (.int .i64 0) := (by rw [hSw.2.cell]; rfl); have s1 : w.cell? ⟨p + 1, 1, none⟩ = some (.string ⟨n.toArray⟩) := (by rw [hSw.2.cell]; rfl); have s2 : w.cell? ⟨p + 1, 2, none⟩ = some (.string ⟨t.toArray⟩) := (by rw [hSw.2.cell]; rfl); have s3 : w.cell? ⟨p + 1, 3, none⟩ = some (.string ⟨b.toArray⟩) := (by rw [hSw.2.cell]; rfl); have zD := hSw.1.lt; have zS := hSw.2.lt; go_simp; try with_reducible rfl
              (try simp only [Act.put, List.setIfInBounds_toArray, List.set_cons_zero, List.set_cons_succ])
              refine reg_take (i := 6) (oi := _) (v := ?_) rfl (by kernel_rfl) (by kernel_rfl) (by kernel_rfl) (fun _ _ _ h => h) (by rfl) ?_ (by assumption) ?_
              rotate_left
              · intro w hSw; (try dsimp only at hSw); have d0 : w.cell? ⟨p, 0, none⟩ = some (.slice A1 x.now.length k1) := (by rw [hSw.1.cell]; rfl); have d1 : w.cell? ⟨p, 1, none⟩ = some (.slice A2 x.sure.length k2) := (by rw [hSw.1.cell]; rfl); have d2 : w.cell? ⟨p, 2, none⟩ = some (.slice A3 x.T.length k3) := (by rw [hSw.1.cell]; rfl); have s0 : w.cell? ⟨p + 1, 0, none⟩ = some (.int .i64 0) := (by rw [hSw.2.cell]; rfl); have s1 : w.cell? ⟨p + 1, 1, none⟩ = some (.string ⟨n.toArray⟩) := (by rw [hSw.2.cell]; rfl); have s2 : w.cell? ⟨p + 1, 2, none⟩ = some (.string ⟨t.toArray⟩) := (by rw [hSw.2.cell]; rfl); have s3 : w.cell? ⟨p + 1, 3, none⟩ = some (.string ⟨b.toArray⟩) := (by rw [hSw.2.cell]; rfl); have zD := hSw.1.lt; have zS := hSw.2.lt; go_simp; try with_reducible rfl
              (try simp only [Act.put, List.setIfInBounds_toArray, List.set_cons_zero, List.set_cons_succ])
              refine reg_take (i := 7) (oi := _) (v := ?_) rfl (by kernel_rfl) (by kernel_rfl) (by kernel_rfl) (fun _ _ _ h => h) (by rfl) ?_ (by assumption) ?_
              rotate_left
              · intro w hSw; (try dsimp only at hSw); have d0 : w.cell? ⟨p, 0, none⟩ = some (.slice A1 x.now.length k1) := (by rw [hSw.1.cell]; rfl); have d1 : w.cell? ⟨p, 1, none⟩ = some (.slice A2 x.sure.length k2) := (by rw [hSw.1.cell]; rfl); have d2 : w.cell? ⟨p, 2, none⟩ = some (.slice A3 x.T.length k3) := (by rw [hSw.1.cell]; rfl); have s0 : w.cell? ⟨p + 1, 0, none⟩ = some (.int .i64 0) := (by rw [hSw.2.cell]; rfl); have s1 : w.cell? ⟨p + 1, 1, none⟩ = some (.string ⟨n.toArray⟩) := (by rw [hSw.2.cell]; rfl); have s2 : w.cell? ⟨p + 1, 2, none⟩ = some (.string ⟨t.toArray⟩) := (by rw [hSw.2.cell]; rfl); have s3 : w.cell? ⟨p + 1, 3, none⟩ = some (.string ⟨b.toArray⟩) := (by rw [hSw.2.cell]; rfl); have zD := hSw.1.lt; have zS := hSw.2.lt; go_simp; try with_reducible rfl
              (try simp only [Act.put, List.setIfInBounds_toArray, List.set_cons_zero, List.set_cons_succ])
              refine reg_take (i := 8) (oi := _) (v := ?_) rfl (by kernel_rfl) (by kernel_rfl) (by kernel_rfl) (fun _ _ _ h => h) (by rfl) ?_ (by assumption) ?_
              rotate_left
              · intro w hSw; (try dsimp only at hSw); have d0 : w.cell? ⟨p, 0, none⟩ = some (.slice A1 x.now.length k1) := (by rw [hSw.1.cell]; rfl); have d1 : w.cell? ⟨p, 1, none⟩ = some (.slice A2 x.sure.length k2) := (by rw [hSw.1.cell]; rfl); have d2 : w.cell? ⟨p, 2, none⟩ = some (.slice A3 x.T.length k3) := (by rw [hSw.1.cell]; rfl); have s0 : w.cell? ⟨p + 1, 0, none⟩ = some (.int .i64 0) := (by rw [hSw.2.cell]; rfl); have s1 : w.cell? ⟨p + 1, 1, none⟩ = some (.string ⟨n.toArray⟩) := (by rw [hSw.2.cell]; rfl); have s2 : w.cell? ⟨p + 1, 2, none⟩ = some (.string ⟨t.toArray⟩) := (by rw [hSw.2.cell]; rfl); have s3 : w.cell? ⟨p + 1, 3, none⟩ = some (.string ⟨b.toArray⟩) := (by rw [hSw.2.cell]; rfl); have zD := hSw.1.lt; have zS := hSw.2.lt; go_simp; try with_reducible rfl
              (try simp only [Act.put, List.setIfInBounds_toArray, List.set_cons_zero, List.set_cons_succ])
              refine reg_take (i := 10) (oi := _) (v := ?_) rfl (by kernel_rfl) (by kernel_rfl) (by kernel_rfl) (fun _ _ _ h => h) (by rfl) ?_ (by assumption) ?_
              rotate_left
              · intro w hSw; (try dsimp only at hSw); have d0 : w.cell? ⟨p, 0, none⟩ = some (.slice A1 x.now.length k1) := (by rw [hSw.1.cell]; rfl); have d1 : w.cell? ⟨p, 1, none⟩ = some (.slice A2 x.sure.length k2) := (by rw [hSw.1.cell]; rfl); have d2 : w.cell? ⟨p, 2, none⟩ = some (.slice A3 x.T.length k3) := (by rw [hSw.1.cell]; rfl); have s0 : w.cell? ⟨p + 1, 0, none⟩ = some (.int .i64 0) := (by rw [hSw.2.cell]; rfl); have s1 : w.cell? ⟨p + 1, 1, none⟩ = some (.string ⟨n.toArray⟩) := (by rw [hSw.2.cell]; rfl); have s2 : w.cell? ⟨p + 1, 2, none⟩ = some (.string ⟨t.toArray⟩) := (by rw [hSw.2.cell]; rfl); have s3 : w.cell? ⟨p + 1, 3, none⟩ = some (.string ⟨b.toArray⟩) := (by rw [hSw.2.cell]; rfl); have zD := hSw.1.lt; have zS := hSw.2.lt; go_simp; try with_reducible rfl
              (try simp only [Act.put, List.setIfInBounds_toArray, List.set_cons_zero, List.set_cons_succ])
              refine wpAnyH_ready (rs := [3, 11]) (by kernel_rfl) (by simp) ?_
              refine reg_each (o := _) rfl (fun K hK => ?_) ?_
              · skip
                go_simp
                refine (DO.out _ BD.out).mono ?_
                rintro q wx0 ⟨v3, rfl, hr3, hb3⟩
                have B0 := Lib.hid (below_trans BD.out hb3)
                have HR3 := Lib.hid hr3
                have HB3 := Lib.hid hb3
                clear hr3 hb3
                go_wp2_with (fail)
                refine hK.out _ _ ?_ (fun hHeld2 => ?_)
                · exact HS0.out.of B0.out
                clear hK K hHeld
                have hHeld := hHeld2
                clear hHeld2
                (try simp only [Act.put, List.setIfInBounds_toArray, List.set_cons_zero, List.set_cons_succ])
                obtain ⟨A4, l4, k4, rfl⟩ : ∃ A l c, v3 = .slice A l c := by obtain ⟨A, c, e⟩ := RdF.owned HR3.out; exact ⟨_, _, _, e⟩
                have HF3 := Lib.hid (RdF.of_owns HR3.out)
                clear HR3 HB3 BD
                refine wpAnyH_ready (rs := [9, 11]) (by kernel_rfl) (by simp) ?_
                refine reg_each (o := _) rfl (fun K hK => ?_) ?_
                · skip
                  refine step_append_D rfl (.tmp 62) (.tmp 64) rfl w3.heap.size (.slice none 0 0) _ [] x.T rfl rfl (World.ownsRow_nil _ _ _ _) (HW3.out.kept (KeptY.below B0.out)) (by simp; omega) B0.out.size ?_
                  intro v9 wx1 own9 gr9 at9
                  have hb9 := grown_none gr9 rfl
                  have B1 := Lib.hid (below_trans B0.out hb9)
                  refine hK.out _ _ ?_ (fun hHeld2 => ?_)
                  · exact HS0.out.of B1.out
                  clear hK K hHeld
                  have hHeld := hHeld2
                  clear hHeld2
                  (try simp only [Act.put, List.setIfInBounds_toArray, List.set_cons_zero, List.set_cons_succ])
                  have OWN9 := Lib.hid (show wx1.ownsRow w3.heap.size 79 4 v9 x.T.length (cellsD x.T) from own9)
                  have HF3 := Lib.hid (HF3.out.kept (KeptY.below hb9))
                  clear own9 gr9 at9 hb9 B0
                  refine wpAnyH_ready (rs := [11]) (by kernel_rfl) (by simp) ?_
                  refine reg_each (o := _) rfl (fun K hK => ?_) ?_
                  · skip
                    go_simp
                    have B2 := Lib.hid (B1.out.alloc B1.out.size (.cells #[.int .i64 0, .string ⟨n.toArray⟩, .string ⟨t.toArray⟩, .string ⟨b.toArray⟩] 79))
                    refine hK.out _ _ ?_ (fun hHeld2 => ?_)
                    · exact HS0.out.of B2.out
                    clear hK K hHeld
                    have hHeld := hHeld2
                    clear hHeld2
                    (try simp only [Act.put, List.setIfInBounds_toArray, List.set_cons_zero, List.set_cons_succ])
                    have P11 := Lib.hid (show RdD (wx1.alloc (.cells #[.int .i64 0, .string ⟨n.toArray⟩, .string ⟨t.toArray⟩, .string ⟨b.toArray⟩] 79)) (.slice (some ⟨wx1.heap.size, 0, none⟩) 1 1) [(⟨⟨n.toArray⟩, ⟨t.toArray⟩, sv, b, true, rm⟩ : Stp)] from RdD.one wx1 (⟨⟨n.toArray⟩, ⟨t.toArray⟩, sv, b, true, rm⟩ : Stp))
                    have AL := KeptY.below ((Below.refl wx1.heap.size wx1).alloc (Nat.le_refl _) (.cells #[.int .i64 0, .string ⟨n.toArray⟩, .string ⟨t.toArray⟩, .string ⟨b.toArray⟩] 79))
                    have HF3 := Lib.hid (HF3.out.kept AL)
                    have N11 := Lib.hid (show v9.ownBlock ≠ some wx1.heap.size from fun e => Nat.lt_irrefl _ (OWN9.out.lt _ e).2)
                    have OWN9 := Lib.hid (OWN9.out.alloc (.cells #[.int .i64 0, .string ⟨n.toArray⟩, .string ⟨t.toArray⟩, .string ⟨b.toArray⟩] 79))
                    have Z11 := Lib.hid (show wx1.heap.size < (wx1.alloc (.cells #[.int .i64 0, .string ⟨n.toArray⟩, .string ⟨t.toArray⟩, .string ⟨b.toArray⟩] 79)).heap.size by simp)
                    clear AL B1
                    generalize wx1.alloc (Obj.cells #[.int .i64 0, .string ⟨n.toArray⟩, .string ⟨t.toArray⟩, .string ⟨b.toArray⟩] 79) = wx2 at *
                    generalize wx1.heap.size = p11 at *
                    refine wpAnyH_ready (rs := [12]) (by kernel_rfl) (by simp) ?_
                    refine reg_each (o := _) rfl (fun K hK => ?_) ?_
                    · skip
                      refine step_append_D rfl (.tmp 65) (.tmp 67) rfl w3.heap.size v9 _ x.T [(⟨⟨n.toArray⟩, ⟨t.toArray⟩, sv, b, true, rm⟩ : Stp)] rfl rfl OWN9.out P11.out (by simp; omega) B2.out.size ?_
                      intro v12 wx3 own12 gr12 at12
                      have B3 := Lib.hid (below_grown' B2.out gr12 (fun k e => (OWN9.out.lt k e).1) B2.out.size)
                      refine hK.out _ _ ?_ (fun hHeld2 => ?_)
                      · exact HS0.out.of B3.out
                      clear hK K hHeld
                      have hHeld := hHeld2
                      clear hHeld2
                      (try simp only [Act.put, List.setIfInBounds_toArray, List.set_cons_zero, List.set_cons_succ])
                      have HF3 := Lib.hid (HF3.out.app OWN9.out gr12)
                      have OWN12 := Lib.hid own12
                      obtain ⟨A5, l5, k5, rfl⟩ : ∃ A l c, v12 = .slice A l c := by obtain ⟨A, c, e⟩ := RdD.owned own12; exact ⟨_, _, _, e⟩
                      clear own12 gr12 at12 OWN9 P11 B2
                      refine reg_take (i := 13) (oi := _) (v := ?_) rfl (by kernel_rfl) (by kernel_rfl) (by kernel_rfl) (fun _ _ _ h => h) (by rfl) ?_ (by assumption) ?_
                      rotate_left
                      · intro w hSw; (try dsimp only at hSw); have d0 : w.cell? ⟨p, 0, none⟩ = some (.slice A1 x.now.length k1) := (by rw [hSw.1.cell]; rfl); have d1 : w.cell? ⟨p, 1, none⟩ = some (.slice A2 x.sure.length k2) := (by rw [hSw.1.cell]; rfl); have d2 : w.cell? ⟨p, 2, none⟩ = some (.slice A3 x.T.length k3) := (by rw [hSw.1.cell]; rfl); have s0 : w.cell? ⟨p + 1, 0, none⟩ = some (.int .i64 0) := (by rw [hSw.2.cell]; rfl); have s1 : w.cell? ⟨p + 1, 1, none⟩ = some (.string ⟨n.toArray⟩) := (by rw [hSw.2.cell]; rfl); have s2 : w.cell? ⟨p + 1, 2, none⟩ = some (.string ⟨t.toArray⟩) := (by rw [hSw.2.cell]; rfl); have s3 : w.cell? ⟨p + 1, 3, none⟩ = some (.string ⟨b.toArray⟩) := (by rw [hSw.2.cell]; rfl); have zD := hSw.1.lt; have zS := hSw.2.lt; go_simp; try with_reducible rfl
                      (try simp only [Act.put, List.setIfInBounds_toArray, List.set_cons_zero, List.set_cons_succ])
                      refine wpAnyH_ready (rs := [14]) (by kernel_rfl) (by simp) ?_
                      refine reg_each (o := _) rfl (fun K hK => ?_) ?_
                      · skip
                        have kZ0 := HWZ.out.below B3.out
                        have y0 : wx3.cell? ⟨p + 2, 0, none⟩ = some (.slice none 0 0) := by rw [kZ0.cell]; rfl
                        have y1 : wx3.cell? ⟨p + 2, 1, none⟩ = some (.slice none 0 0) := by rw [kZ0.cell]; rfl
                        have y2 : wx3.cell? ⟨p + 2, 2, none⟩ = some (.slice none 0 0) := by rw [kZ0.cell]; rfl
                        have f0 := kZ0.frozen 0
                        have f1 := kZ0.frozen 1
                        have f2 := kZ0.frozen 2
                        have zZ := kZ0.lt
                        have hk4 : k4 = k4 := rfl
                        go_simp
                        refine hK.out _ _ ?_ (fun hHeld2 => ?_)
                        · exact ((hHeld.set 0 _).set 1 _).set 2 _
                        clear hK K hHeld
                        have hHeld := hHeld2
                        clear hHeld2
                        (try simp only [Act.put, List.setIfInBounds_toArray, List.set_cons_zero, List.set_cons_succ])
                        refine reg_take (i := 15) (oi := _) (v := ?_) rfl (by kernel_rfl) (by kernel_rfl) (by kernel_rfl) (fun _ _ _ h => h) (by rfl) ?_ (by assumption) ?_
                        rotate_left
                        · intro w hSw; (try dsimp only at hSw); have d0 : w.cell? ⟨p, 0, none⟩ = some (.slice A1 x.now.length k1) := (by rw [hSw.1.cell]; rfl); have d1 : w.cell? ⟨p, 1, none⟩ = some (.slice A2 x.sure.length k2) := (by rw [hSw.1.cell]; rfl); have d2 : w.cell? ⟨p, 2, none⟩ = some (.slice A3 x.T.length k3) := (by rw [hSw.1.cell]; rfl); have s0 : w.cell? ⟨p + 1, 0, none⟩ = some (.int .i64 0) := (by rw [hSw.2.cell]; rfl); have s1 : w.cell? ⟨p + 1, 1, none⟩ = some (.string ⟨n.toArray⟩) := (by rw [hSw.2.cell]; rfl); have s2 : w.cell? ⟨p + 1, 2, none⟩ = some (.string ⟨t.toArray⟩) := (by rw [hSw.2.cell]; rfl); have s3 : w.cell? ⟨p + 1, 3, none⟩ = some (.string ⟨b.toArray⟩) := (by rw [hSw.2.cell]; rfl); have zD := hSw.1.lt; have zS := hSw.2.lt; go_simp; try with_reducible rfl
                        (try simp only [Act.put, List.setIfInBounds_toArray, List.set_cons_zero, List.set_cons_succ])
                        refine wpAnyH_done (by kernel_rfl) ?_ _
                        refine NoPanic.normal ?_
                        clear hHeld y0 y1 y2 f0 f1 f2 zZ
                        go_wp2_with (fail)
                        have kZ1 := kZ0.put 0 (.slice A4 l4 k4) rfl
                        have kZ2 := kZ1.put 1 (.slice A2 x.sure.length k2) rfl
                        have kZ3 := kZ2.put 2 (.slice A5 l5 k5) rfl
                        have KK := (KeptD.set kZ0 0 (.slice A4 l4 k4)).trans ((KeptD.set kZ1 1 (.slice A2 x.sure.length k2)).trans (KeptD.set kZ2 2 (.slice A5 l5 k5)))
                        rw [HC.out, HXX.out]
                        refine bodyPost_end (results_ct_row rfl _ _ (p + 2) _ _ _ _ rfl kZ3) rfl ⟨_, rfl, ⟨_, _, _, rfl, HF3.out.keptD KK, (HW2.out.kept (KeptY.below B3.out)).keptD KK, (RdD.of_owns OWN12.out).keptD KK⟩, ?_⟩
                        exact below_set3 (HWB.out.trans (B3.out.mono HWB.out.size)) (by rw [HP.out]; omega)
                      exact AllReadyH.nil
                    exact AllReadyH.nil
                  exact AllReadyH.nil
                refine reg_each (o := _) rfl (fun K hK => ?_) ?_
                · skip
                  go_simp
                  have B1 := Lib.hid (B0.out.alloc B0.out.size (.cells #[.int .i64 0, .string ⟨n.toArray⟩, .string ⟨t.toArray⟩, .string ⟨b.toArray⟩] 79))
                  refine hK.out _ _ ?_ (fun hHeld2 => ?_)
                  · exact HS0.out.of B1.out
                  clear hK K hHeld
                  have hHeld := hHeld2
                  clear hHeld2
                  (try simp only [Act.put, List.setIfInBounds_toArray, List.set_cons_zero, List.set_cons_succ])
                  have P11 := Lib.hid (show RdD (wx0.alloc (.cells #[.int .i64 0, .string ⟨n.toArray⟩, .string ⟨t.toArray⟩, .string ⟨b.toArray⟩] 79)) (.slice (some ⟨wx0.heap.size, 0, none⟩) 1 1) [(⟨⟨n.toArray⟩, ⟨t.toArray⟩, sv, b, true, rm⟩ : Stp)] from RdD.one wx0 (⟨⟨n.toArray⟩, ⟨t.toArray⟩, sv, b, true, rm⟩ : Stp))
                  have AL := KeptY.below ((Below.refl wx0.heap.size wx0).alloc (Nat.le_refl _) (.cells #[.int .i64 0, .string ⟨n.toArray⟩, .string ⟨t.toArray⟩, .string ⟨b.toArray⟩] 79))
                  have HF3 := Lib.hid (HF3.out.kept AL)
                  have Z11 := Lib.hid (show wx0.heap.size < (wx0.alloc (.cells #[.int .i64 0, .string ⟨n.toArray⟩, .string ⟨t.toArray⟩, .string ⟨b.toArray⟩] 79)).heap.size by simp)
                  clear AL B0
                  generalize wx0.alloc (Obj.cells #[.int .i64 0, .string ⟨n.toArray⟩, .string ⟨t.toArray⟩, .string ⟨b.toArray⟩] 79) = wx1 at *
                  generalize wx0.heap.size = p11 at *
                  refine wpAnyH_ready (rs := [9]) (by kernel_rfl) (by simp) ?_
                  refine reg_each (o := _) rfl (fun K hK => ?_) ?_
                  · skip
                    refine step_append_D rfl (.tmp 62) (.tmp 64) rfl w3.heap.size (.slice none 0 0) _ [] x.T rfl rfl (World.ownsRow_nil _ _ _ _) (HW3.out.kept (KeptY.below B1.out)) (by simp; omega) B1.out.size ?_
                    intro v9 wx2 own9 gr9 at9
                    have hb9 := grown_none gr9 rfl
                    have B2 := Lib.hid (below_trans B1.out hb9)
                    refine hK.out _ _ ?_ (fun hHeld2 => ?_)
                    · exact HS0.out.of B2.out
                    clear hK K hHeld
                    have hHeld := hHeld2
                    clear hHeld2
                    (try simp only [Act.put, List.setIfInBounds_toArray, List.set_cons_zero, List.set_cons_succ])
                    have OWN9 := Lib.hid (show wx2.ownsRow w3.heap.size 79 4 v9 x.T.length (cellsD x.T) from own9)
                    have HF3 := Lib.hid (HF3.out.kept (KeptY.below hb9))
                    have P11 := Lib.hid (P11.out.kept (KeptY.below hb9))
                    have N11 := Lib.hid (show v9.ownBlock ≠ some p11 from fun e => by
                      rcases at9 with h | h
                      · rw [h] at e; cases e
                      · rw [h] at e; have := Option.some.inj e; have := Z11.out; omega)
                    clear own9 gr9 at9 hb9 B1
                    refine wpAnyH_ready (rs := [12]) (by kernel_rfl) (by simp) ?_
                    refine reg_each (o := _) rfl (fun K hK => ?_) ?_
                    · skip
                      refine step_append_D rfl (.tmp 65) (.tmp 67) rfl w3.heap.size v9 _ x.T [(⟨⟨n.toArray⟩, ⟨t.toArray⟩, sv, b, true, rm⟩ : Stp)] rfl rfl OWN9.out P11.out (by simp; omega) B2.out.size ?_
                      intro v12 wx3 own12 gr12 at12
                      have B3 := Lib.hid (below_grown' B2.out gr12 (fun k e => (OWN9.out.lt k e).1) B2.out.size)
                      refine hK.out _ _ ?_ (fun hHeld2 => ?_)
                      · exact HS0.out.of B3.out
                      clear hK K hHeld
                      have hHeld := hHeld2
                      clear hHeld2
                      (try simp only [Act.put, List.setIfInBounds_toArray, List.set_cons_zero, List.set_cons_succ])
                      have HF3 := Lib.hid (HF3.out.app OWN9.out gr12)
                      have OWN12 := Lib.hid own12
                      obtain ⟨A5, l5, k5, rfl⟩ : ∃ A l c, v12 = .slice A l c := by obtain ⟨A, c, e⟩ := RdD.owned own12; exact ⟨_, _, _, e⟩
                      clear own12 gr12 at12 OWN9 P11 B2
                      refine reg_take (i := 13) (oi := _) (v := ?_) rfl (by kernel_rfl) (by kernel_rfl) (by kernel_rfl) (fun _ _ _ h => h) (by rfl) ?_ (by assumption) ?_
                      rotate_left
                      · intro w hSw; (try dsimp only at hSw); have d0 : w.cell? ⟨p, 0, none⟩ = some (.slice A1 x.now.length k1) := (by rw [hSw.1.cell]; rfl); have d1 : w.cell? ⟨p, 1, none⟩ = some (.slice A2 x.sure.length k2) := (by rw [hSw.1.cell]; rfl); have d2 : w.cell? ⟨p, 2, none⟩ = some (.slice A3 x.T.length k3) := (by rw [hSw.1.cell]; rfl); have s0 : w.cell? ⟨p + 1, 0, none⟩ = some (.int .i64 0) := (by rw [hSw.2.cell]; rfl); have s1 : w.cell? ⟨p + 1, 1, none⟩ = some (.string ⟨n.toArray⟩) := (by rw [hSw.2.cell]; rfl); have s2 : w.cell? ⟨p + 1, 2, none⟩ = some (.string ⟨t.toArray⟩) := (by rw [hSw.2.cell]; rfl); have s3 : w.cell? ⟨p + 1, 3, none⟩ = some (.string ⟨b.toArray⟩) := (by rw [hSw.2.cell]; rfl); have zD := hSw.1.lt; have zS := hSw.2.lt; go_simp; try with_reducible rfl
                      (try simp only [Act.put, List.setIfInBounds_toArray, List.set_cons_zero, List.set_cons_succ])
                      refine wpAnyH_ready (rs := [14]) (by kernel_rfl) (by simp) ?_
                      refine reg_each (o := _) rfl (fun K hK => ?_) ?_
                      · skip
                        have kZ0 := HWZ.out.below B3.out
                        have y0 : wx3.cell? ⟨p + 2, 0, none⟩ = some (.slice none 0 0) := by rw [kZ0.cell]; rfl
                        have y1 : wx3.cell? ⟨p + 2, 1, none⟩ = some (.slice none 0 0) := by rw [kZ0.cell]; rfl
                        have y2 : wx3.cell? ⟨p + 2, 2, none⟩ = some (.slice none 0 0) := by rw [kZ0.cell]; rfl
                        have f0 := kZ0.frozen 0
                        have f1 := kZ0.frozen 1
                        have f2 := kZ0.frozen 2
                        have zZ := kZ0.lt
                        have hk4 : k4 = k4 := rfl
                        go_simp
                        refine hK.out _ _ ?_ (fun hHeld2 => ?_)
                        · exact ((hHeld.set 0 _).set 1 _).set 2 _
                        clear hK K hHeld
                        have hHeld := hHeld2
                        clear hHeld2
                        (try simp only [Act.put, List.setIfInBounds_toArray, List.set_cons_zero, List.set_cons_succ])
                        refine reg_take (i := 15) (oi := _) (v := ?_) rfl (by kernel_rfl) (by kernel_rfl) (by kernel_rfl) (fun _ _ _ h => h) (by rfl) ?_ (by assumption) ?_
                        rotate_left
                        · intro w hSw; (try dsimp only at hSw); have d0 : w.cell? ⟨p, 0, none⟩ = some (.slice A1 x.now.length k1) := (by rw [hSw.1.cell]; rfl); have d1 : w.cell? ⟨p, 1, none⟩ = some (.slice A2 x.sure.length k2) := (by rw [hSw.1.cell]; rfl); have d2 : w.cell? ⟨p, 2, none⟩ = some (.slice A3 x.T.length k3) := (by rw [hSw.1.cell]; rfl); have s0 : w.cell? ⟨p + 1, 0, none⟩ = some (.int .i64 0) := (by rw [hSw.2.cell]; rfl); have s1 : w.cell? ⟨p + 1, 1, none⟩ = some (.string ⟨n.toArray⟩) := (by rw [hSw.2.cell]; rfl); have s2 : w.cell? ⟨p + 1, 2, none⟩ = some (.string ⟨t.toArray⟩) := (by rw [hSw.2.cell]; rfl); have s3 : w.cell? ⟨p + 1, 3, none⟩ = some (.string ⟨b.toArray⟩) := (by rw [hSw.2.cell]; rfl); have zD := hSw.1.lt; have zS := hSw.2.lt; go_simp; try with_reducible rfl
                        (try simp only [Act.put, List.setIfInBounds_toArray, List.set_cons_zero, List.set_cons_succ])
                        refine wpAnyH_done (by kernel_rfl) ?_ _
                        refine NoPanic.normal ?_
                        clear hHeld y0 y1 y2 f0 f1 f2 zZ
                        go_wp2_with (fail)
                        have kZ1 := kZ0.put 0 (.slice A4 l4 k4) rfl
                        have kZ2 := kZ1.put 1 (.slice A2 x.sure.length k2) rfl
                        have kZ3 := kZ2.put 2 (.slice A5 l5 k5) rfl
                        have KK := (KeptD.set kZ0 0 (.slice A4 l4 k4)).trans ((KeptD.set kZ1 1 (.slice A2 x.sure.length k2)).trans (KeptD.set kZ2 2 (.slice A5 l5 k5)))
                        rw [HC.out, HXX.out]
                        refine bodyPost_end (results_ct_row rfl _ _ (p + 2) _ _ _ _ rfl kZ3) rfl ⟨_, rfl, ⟨_, _, _, rfl, HF3.out.keptD KK, (HW2.out.kept (KeptY.below B3.out)).keptD KK, (RdD.of_owns OWN12.out).keptD KK⟩, ?_⟩
                        exact below_set3 (HWB.out.trans (B3.out.mono HWB.out.size)) (by rw [HP.out]; omega)
                      exact AllReadyH.nil
                    exact AllReadyH.nil
                  exact AllReadyH.nil
                exact AllReadyH.nil
              refine reg_each (o := _) rfl (fun K hK => ?_) ?_
              · skip
                go_simp
                have B0 := Lib.hid (BD.out.alloc BD.out.size (.cells #[.int .i64 0, .string ⟨n.toArray⟩, .string ⟨t.toArray⟩, .string ⟨b.toArray⟩] 79))
                refine hK.out _ _ ?_ (fun hHeld2 => ?_)
                · exact HS0.out.of B0.out
                clear hK K hHeld
                have hHeld := hHeld2
                clear hHeld2
                (try simp only [Act.put, List.setIfInBounds_toArray, List.set_cons_zero, List.set_cons_succ])
                have P11 := Lib.hid (show RdD (wd.alloc (.cells #[.int .i64 0, .string ⟨n.toArray⟩, .string ⟨t.toArray⟩, .string ⟨b.toArray⟩] 79)) (.slice (some ⟨wd.heap.size, 0, none⟩) 1 1) [(⟨⟨n.toArray⟩, ⟨t.toArray⟩, sv, b, true, rm⟩ : Stp)] from RdD.one wd (⟨⟨n.toArray⟩, ⟨t.toArray⟩, sv, b, true, rm⟩ : Stp))
                have AL := KeptY.below ((Below.refl wd.heap.size wd).alloc (Nat.le_refl _) (.cells #[.int .i64 0, .string ⟨n.toArray⟩, .string ⟨t.toArray⟩, .string ⟨b.toArray⟩] 79))
                have Z11 := Lib.hid (show wd.heap.size < (wd.alloc (.cells #[.int .i64 0, .string ⟨n.toArray⟩, .string ⟨t.toArray⟩, .string ⟨b.toArray⟩] 79)).heap.size by simp)
                clear AL BD
                generalize wd.alloc (Obj.cells #[.int .i64 0, .string ⟨n.toArray⟩, .string ⟨t.toArray⟩, .string ⟨b.toArray⟩] 79) = wx0 at *
                generalize wd.heap.size = p11 at *
                refine wpAnyH_ready (rs := [3]) (by kernel_rfl) (by simp) ?_
                refine reg_each (o := _) rfl (fun K hK => ?_) ?_
                · skip
                  go_simp
                  refine (DO.out _ B0.out).mono ?_
                  rintro q wx1 ⟨v3, rfl, hr3, hb3⟩
                  have B1 := Lib.hid (below_trans B0.out hb3)
                  have HR3 := Lib.hid hr3
                  have HB3 := Lib.hid hb3
                  clear hr3 hb3
                  go_wp2_with (fail)
                  refine hK.out _ _ ?_ (fun hHeld2 => ?_)
                  · exact HS0.out.of B1.out
                  clear hK K hHeld
                  have hHeld := hHeld2
                  clear hHeld2
                  (try simp only [Act.put, List.setIfInBounds_toArray, List.set_cons_zero, List.set_cons_succ])
                  have Z11 := Lib.hid (Nat.lt_of_lt_of_le Z11.out HB3.out.size)
                  obtain ⟨A4, l4, k4, rfl⟩ : ∃ A l c, v3 = .slice A l c := by obtain ⟨A, c, e⟩ := RdF.owned HR3.out; exact ⟨_, _, _, e⟩
                  have HF3 := Lib.hid (RdF.of_owns HR3.out)
                  have P11 := Lib.hid (P11.out.kept (KeptY.below HB3.out))
                  clear HR3 HB3 B0
                  refine wpAnyH_ready (rs := [9]) (by kernel_rfl) (by simp) ?_
                  refine reg_each (o := _) rfl (fun K hK => ?_) ?_
                  · skip
                    refine step_append_D rfl (.tmp 62) (.tmp 64) rfl w3.heap.size (.slice none 0 0) _ [] x.T rfl rfl (World.ownsRow_nil _ _ _ _) (HW3.out.kept (KeptY.below B1.out)) (by simp; omega) B1.out.size ?_
                    intro v9 wx2 own9 gr9 at9
                    have hb9 := grown_none gr9 rfl
                    have B2 := Lib.hid (below_trans B1.out hb9)
                    refine hK.out _ _ ?_ (fun hHeld2 => ?_)
                    · exact HS0.out.of B2.out
                    clear hK K hHeld
                    have hHeld := hHeld2
                    clear hHeld2
                    (try simp only [Act.put, List.setIfInBounds_toArray, List.set_cons_zero, List.set_cons_succ])
                    have OWN9 := Lib.hid (show wx2.ownsRow w3.heap.size 79 4 v9 x.T.length (cellsD x.T) from own9)
                    have HF3 := Lib.hid (HF3.out.kept (KeptY.below hb9))
                    have P11 := Lib.hid (P11.out.kept (KeptY.below hb9))
                    have N11 := Lib.hid (show v9.ownBlock ≠ some p11 from fun e => by
                      rcases at9 with h | h
                      · rw [h] at e; cases e
                      · rw [h] at e; have := Option.some.inj e; have := Z11.out; omega)
                    clear own9 gr9 at9 hb9 B1
                    refine wpAnyH_ready (rs := [12]) (by kernel_rfl) (by simp) ?_
                    refine reg_each (o := _) rfl (fun K hK => ?_) ?_
                    · skip
                      refine step_append_D rfl (.tmp 65) (.tmp 67) rfl w3.heap.size v9 _ x.T [(⟨⟨n.toArray⟩, ⟨t.toArray⟩, sv, b, true, rm⟩ : Stp)] rfl rfl OWN9.out P11.out (by simp; omega) B2.out.size ?_
                      intro v12 wx3 own12 gr12 at12
                      have B3 := Lib.hid (below_grown' B2.out gr12 (fun k e => (OWN9.out.lt k e).1) B2.out.size)
                      refine hK.out _ _ ?_ (fun hHeld2 => ?_)
                      · exact HS0.out.of B3.out
                      clear hK K hHeld
                      have hHeld := hHeld2
                      clear hHeld2
                      (try simp only [Act.put, List.setIfInBounds_toArray, List.set_cons_zero, List.set_cons_succ])
                      have HF3 := Lib.hid (HF3.out.app OWN9.out gr12)
                      have OWN12 := Lib.hid own12
                      obtain ⟨A5, l5, k5, rfl⟩ : ∃ A l c, v12 = .slice A l c := by obtain ⟨A, c, e⟩ := RdD.owned own12; exact ⟨_, _, _, e⟩
                      clear own12 gr12 at12 OWN9 P11 B2
                      refine reg_take (i := 13) (oi := _) (v := ?_) rfl (by kernel_rfl) (by kernel_rfl) (by kernel_rfl) (fun _ _ _ h => h) (by rfl) ?_ (by assumption) ?_
                      rotate_left
                      · intro w hSw; (try dsimp only at hSw); have d0 : w.cell? ⟨p, 0, none⟩ = some (.slice A1 x.now.length k1) := (by rw [hSw.1.cell]; rfl); have d1 : w.cell? ⟨p, 1, none⟩ = some (.slice A2 x.sure.length k2) := (by rw [hSw.1.cell]; rfl); have d2 : w.cell? ⟨p, 2, none⟩ = some (.slice A3 x.T.length k3) := (by rw [hSw.1.cell]; rfl); have s0 : w.cell? ⟨p + 1, 0, none⟩ = some (.int .i64 0) := (by rw [hSw.2.cell]; rfl); have s1 : w.cell? ⟨p + 1, 1, none⟩ = some (.string ⟨n.toArray⟩) := (by rw [hSw.2.cell]; rfl); have s2 : w.cell? ⟨p + 1, 2, none⟩ = some (.string ⟨t.toArray⟩) := (by rw [hSw.2.cell]; rfl); have s3 : w.cell? ⟨p + 1, 3, none⟩ = some (.string ⟨b.toArray⟩) := (by rw [hSw.2.cell]; rfl); have zD := hSw.1.lt; have zS := hSw.2.lt; go_simp; try with_reducible rfl
                      (try simp only [Act.put, List.setIfInBounds_toArray, List.set_cons_zero, List.set_cons_succ])
                      refine wpAnyH_ready (rs := [14]) (by kernel_rfl) (by simp) ?_
                      refine reg_each (o := _) rfl (fun K hK => ?_) ?_
                      · skip
                        have kZ0 := HWZ.out.below B3.out
                        have y0 : wx3.cell? ⟨p + 2, 0, none⟩ = some (.slice none 0 0) := by rw [kZ0.cell]; rfl
                        have y1 : wx3.cell? ⟨p + 2, 1, none⟩ = some (.slice none 0 0) := by rw [kZ0.cell]; rfl
                        have y2 : wx3.cell? ⟨p + 2, 2, none⟩ = some (.slice none 0 0) := by rw [kZ0.cell]; rfl
                        have f0 := kZ0.frozen 0
                        have f1 := kZ0.frozen 1
                        have f2 := kZ0.frozen 2
                        have zZ := kZ0.lt
                        have hk4 : k4 = k4 := rfl
                        go_simp
                        refine hK.out _ _ ?_ (fun hHeld2 => ?_)
                        · exact ((hHeld.set 0 _).set 1 _).set 2 _
                        clear hK K hHeld
                        have hHeld := hHeld2
                        clear hHeld2
                        (try simp only [Act.put, List.setIfInBounds_toArray, List.set_cons_zero, List.set_cons_succ])
                        refine reg_take (i := 15) (oi := _) (v := ?_) rfl (by kernel_rfl) (by kernel_rfl) (by kernel_rfl) (fun _ _ _ h => h) (by rfl) ?_ (by assumption) ?_
                        rotate_left
                        · intro w hSw; (try dsimp only at hSw); have d0 : w.cell? ⟨p, 0, none⟩ = some (.slice A1 x.now.length k1) := (by rw [hSw.1.cell]; rfl); have d1 : w.cell? ⟨p, 1, none⟩ = some (.slice A2 x.sure.length k2) := (by rw [hSw.1.cell]; rfl); have d2 : w.cell? ⟨p, 2, none⟩ = some (.slice A3 x.T.length k3) := (by rw [hSw.1.cell]; rfl); have s0 : w.cell? ⟨p + 1, 0, none⟩ = some (.int .i64 0) := (by rw [hSw.2.cell]; rfl); have s1 : w.cell? ⟨p + 1, 1, none⟩ = some (.string ⟨n.toArray⟩) := (by rw [hSw.2.cell]; rfl); have s2 : w.cell? ⟨p + 1, 2, none⟩ = some (.string ⟨t.toArray⟩) := (by rw [hSw.2.cell]; rfl); have s3 : w.cell? ⟨p + 1, 3, none⟩ = some (.string ⟨b.toArray⟩) := (by rw [hSw.2.cell]; rfl); have zD := hSw.1.lt; have zS := hSw.2.lt; go_simp; try with_reducible rfl
                        (try simp only [Act.put, List.setIfInBounds_toArray, List.set_cons_zero, List.set_cons_succ])
                        refine wpAnyH_done (by kernel_rfl) ?_ _
                        refine NoPanic.normal ?_
                        clear hHeld y0 y1 y2 f0 f1 f2 zZ
                        go_wp2_with (fail)
                        have kZ1 := kZ0.put 0 (.slice A4 l4 k4) rfl
                        have kZ2 := kZ1.put 1 (.slice A2 x.sure.length k2) rfl
                        have kZ3 := kZ2.put 2 (.slice A5 l5 k5) rfl
                        have KK := (KeptD.set kZ0 0 (.slice A4 l4 k4)).trans ((KeptD.set kZ1 1 (.slice A2 x.sure.length k2)).trans (KeptD.set kZ2 2 (.slice A5 l5 k5)))
                        rw [HC.out, HXX.out]
                        refine bodyPost_end (results_ct_row rfl _ _ (p + 2) _ _ _ _ rfl kZ3) rfl ⟨_, rfl, ⟨_, _, _, rfl, HF3.out.keptD KK, (HW2.out.kept (KeptY.below B3.out)).keptD KK, (RdD.of_owns OWN12.out).keptD KK⟩, ?_⟩
                        exact below_set3 (HWB.out.trans (B3.out.mono HWB.out.size)) (by rw [HP.out]; omega)
                      exact AllReadyH.nil
                    exact AllReadyH.nil
                  exact AllReadyH.nil
                exact AllReadyH.nil
              exact AllReadyH.nil
        · have q0 : (0 : Int) ≤ q := by omega
          by_cases hT2 : 4096 ≤ x.T.length
          · have hT2' : (4096 : Int) ≤ (x.T.length : Int) := by omega
            have HC := Lib.hid (show tryN x n t b true rm = 10 from by unfold tryN; rw [if_neg (by rw [hnn]; decide), if_neg (by simp), if_pos rfl, if_neg hb6, if_neg (fun h => by rw [hl] at h; cases h.1), if_pos hT2])
            have HXX := Lib.hid (show TryX x n t b sv true rm = x from if_neg (by rw [HC.out]; decide))
            go_wp2_with (fail)
            have kZ0 := HKZ.out.below HBW.out
            have kZ1 := kZ0.put 0 (.slice A1 x.now.length k1) rfl
            have kZ2 := kZ1.put 1 (.slice A2 x.sure.length k2) rfl
            have kZ3 := kZ2.put 2 (.slice A3 x.T.length k3) rfl
            have KK := ((KeptD.of (KeptY.below HBW.out)).trans (KeptD.set kZ0 0 (.slice A1 x.now.length k1))).trans ((KeptD.set kZ1 1 (.slice A2 x.sure.length k2)).trans (KeptD.set kZ2 2 (.slice A3 x.T.length k3)))
            rw [HC.out, HXX.out]
            refine bodyPost_end (results_ct_row rfl _ _ (p + 2) _ _ _ _ rfl kZ3) rfl ⟨_, rfl, ?_, ?_⟩
            · exact ⟨_, _, _, rfl, H1.out.keptD KK, H2.out.keptD KK, H3.out.keptD KK⟩
            · rw [HP.out]
              exact below_set3 (HBZ.out.trans (HBW.out.mono (by have := HKD.out.lt; omega))) (by omega)
          · have hT2' : ¬ (4096 : Int) ≤ (x.T.length : Int) := by omega
            have HC := Lib.hid (show tryN x n t b true rm = 0 from by unfold tryN; rw [if_neg (by rw [hnn]; decide), if_neg (by simp), if_pos rfl, if_neg hb6, if_neg (fun h => by rw [hl] at h; cases h.1), if_neg hT2])
            have HXX := Lib.hid (show TryX x n t b sv true rm = TryS x n t b sv true rm from if_pos HC.out)
            have HS0 := Lib.hid (show S13 p (.slice A1 x.now.length k1) (.slice A2 x.sure.length k2) (.slice A3 x.T.length k3) (.int .i64 0) (.string ⟨n.toArray⟩) (.string ⟨t.toArray⟩) (.string ⟨b.toArray⟩) w3 from ⟨HKD.out.below HBW.out, HKS.out.below HBW.out⟩)
            have HW1 := Lib.hid (H1.out.kept (KeptY.below HBW.out))
            have HW2 := Lib.hid (H2.out.kept (KeptY.below HBW.out))
            have HW3 := Lib.hid (H3.out.kept (KeptY.below HBW.out))
            have HWZ := Lib.hid (HKZ.out.below HBW.out)
            have HWB := Lib.hid (show Below w.heap.size w w3 by rw [HP.out]; exact HBZ.out.trans (HBW.out.mono (by have := HKD.out.lt; omega)))
            have HPW := Lib.hid (show p + 2 < w3.heap.size from HWZ.out.lt)
            have DO := Lib.hid (fun (w' : World) (hb : Below w3.heap.size w3 w') => docdo_walk (.slice A1 x.now.length k1) x.now n t b sv true rm w' (HW1.out.kept (KeptY.below hb)) hF (fun h => by cases h))
            skip
            go_upto_region 13 with (fail)
            clear HKD HKS HKZ HBW H1 H2 H3 HBZ d0 d1 d2 s0 s1 s2 s3 y0 y1 y2 f0 f1 f2 zD zS zZ
            refine wp_region_noPanic ?_
            refine wp_region_held_drew (S := (fun w' => S13 p (.slice A1 x.now.length k1) (.slice A2 x.sure.length k2) (.slice A3 x.T.length k3) (.int .i64 0) (.string ⟨n.toArray⟩) (.string ⟨t.toArray⟩) (.string ⟨b.toArray⟩) w')) (by kernel_rfl) ?_ (fun hHeld => ?_)
            · exact HS0.out
            have BD := Lib.hid (show Below w3.heap.size w3 w3.drew from below_drewN (Below.refl _ _) 1)
            generalize w3.drew = wd at *
            refine reg_take (i := 0) (oi := _) (v := ?_) rfl (by kernel_rfl) (by kernel_rfl) (by kernel_rfl) (fun _ _ _ h => h) (by rfl) ?_ (by assumption) ?_
            rotate_left
            · intro w hSw; (try dsimp only at hSw); have d0 : w.cell? ⟨p, 0, none⟩ = some (.slice A1 x.now.length k1) := (by rw [hSw.1.cell]; rfl); have d1 : w.cell? ⟨p, 1, none⟩ = some (.slice A2 x.sure.length k2) := (by rw [hSw.1.cell]; rfl); have d2 : w.cell? ⟨p, 2, none⟩ = some (.slice A3 x.T.length k3) := (by rw [hSw.1.cell]; rfl); have s0 : w.cell? ⟨p + 1, 0, none⟩ = some (.int .i64 0) := (by rw [hSw.2.cell]; rfl); have s1 : w.cell? ⟨p + 1, 1, none⟩ = some (.string ⟨n.toArray⟩) := (by rw [hSw.2.cell]; rfl); have s2 : w.cell? ⟨p + 1, 2, none⟩ = some (.string ⟨t.toArray⟩) := (by rw [hSw.2.cell]; rfl); have s3 : w.cell? ⟨p + 1, 3, none⟩ = some (.string ⟨b.toArray⟩) := (by rw [hSw.2.cell]; rfl); have zD := hSw.1.lt; have zS := hSw.2.lt; go_simp; try with_reducible rfl
            (try simp only [Act.put, List.setIfInBounds_toArray, List.set_cons_zero, List.set_cons_succ])
            refine reg_take (i := 1) (oi := _) (v := ?_) rfl (by kernel_rfl) (by kernel_rfl) (by kernel_rfl) (fun _ _ _ h => h) (by rfl) ?_ (by assumption) ?_
            rotate_left
            · intro w hSw; (try dsimp only at hSw); have d0 : w.cell? ⟨p, 0, none⟩ = some (.slice A1 x.now.length k1) := (by rw [hSw.1.cell]; rfl); have d1 : w.cell? ⟨p, 1, none⟩ = some (.slice A2 x.sure.length k2) := (by rw [hSw.1.cell]; rfl); have d2 : w.cell? ⟨p, 2, none⟩ = some (.slice A3 x.T.length k3) := (by rw [hSw.1.cell]; rfl); have s0 : w.cell? ⟨p + 1, 0, none⟩ = some (.int .i64 0) := (by rw [hSw.2.cell]; rfl); have s1 : w.cell? ⟨p + 1, 1, none⟩ = some (.string ⟨n.toArray⟩) := (by rw [hSw.2.cell]; rfl); have s2 : w.cell? ⟨p + 1, 2, none⟩ = some (.string ⟨t.toArray⟩) := (by rw [hSw.2.cell]; rfl); have s3 : w.cell? ⟨p + 1, 3, none⟩ = some (.string ⟨b.toArray⟩) := (by rw [hSw.2.cell]; rfl); have zD := hSw.1.lt; have zS := hSw.2.lt; go_simp; try with_reducible rfl
            (try simp only [Act.put, List.setIfInBounds_toArray, List.set_cons_zero, List.set_cons_succ])
            refine reg_take (i := 2) (oi := _) (v := ?_) rfl (by kernel_rfl) (by kernel_rfl) (by kernel_rfl) (fun _ _ _ h => h) (by rfl) ?_ (by assumption) ?_
            rotate_left
            · intro w hSw; (try dsimp only at hSw); have d0 : w.cell? ⟨p, 0, none⟩ = some (.slice A1 x.now.length k1) := (by rw [hSw.1.cell]; rfl); have d1 : w.cell? ⟨p, 1, none⟩ = some (.slice A2 x.sure.length k2) := (by rw [hSw.1.cell]; rfl); have d2 : w.cell? ⟨p, 2, none⟩ = some (.slice A3 x.T.length k3) := (by rw [hSw.1.cell]; rfl); have s0 : w.cell? ⟨p + 1, 0, none⟩ = some (.int .i64 0) := (by rw [hSw.2.cell]; rfl); have s1 : w.cell? ⟨p + 1, 1, none⟩ = some (.string ⟨n.toArray⟩) := (by rw [hSw.2.cell]; rfl); have s2 : w.cell? ⟨p + 1, 2, none⟩ = some (.string ⟨t.toArray⟩) := (by rw [hSw.2.cell]; rfl); have s3 : w.cell? ⟨p + 1, 3, none⟩ = some (.string ⟨b.toArray⟩) := (by rw [hSw.2.cell]; rfl); have zD := hSw.1.lt; have zS := hSw.2.lt; go_simp; try with_reducible rfl
            (try simp only [Act.put, List.setIfInBounds_toArray, List.set_cons_zero, List.set_cons_succ])
            refine reg_take (i := 4) (oi := _) (v := ?_) rfl (by kernel_rfl) (by kernel_rfl) (by kernel_rfl) (fun _ _ _ h => h) (by rfl) ?_ (by assumption) ?_
            rotate_left
            · intro w hSw; (try dsimp only at hSw); have d0 : w.cell? ⟨p, 0, none⟩ = some (.slice A1 x.now.length k1) := (by rw [hSw.1.cell]; rfl); have d1 : w.cell? ⟨p, 1, none⟩ = some (.slice A2 x.sure.length k2) := (by rw [hSw.1.cell]; rfl); have d2 : w.cell? ⟨p, 2, none⟩ = some (.slice A3 x.T.length k3) := (by rw [hSw.1.cell]; rfl); have s0 : w.cell? ⟨p + 1, 0, none⟩ = some (.int .i64 0) := (by rw [hSw.2.cell]; rfl); have s1 : w.cell? ⟨p + 1, 1, none⟩ = some (.string ⟨n.toArray⟩) := (by rw [hSw.2.cell]; rfl); have s2 : w.cell? ⟨p + 1, 2, none⟩ = some (.string ⟨t.toArray⟩) := (by rw [hSw.2.cell]; rfl); have s3 : w.cell? ⟨p + 1, 3, none⟩ = some (.string ⟨b.toArray⟩) := (by rw [hSw.2.cell]; rfl); have zD := hSw.1.lt; have zS := hSw.2.lt; go_simp; try with_reducible rfl
            (try simp only [Act.put, List.setIfInBounds_toArray, List.set_cons_zero, List.set_cons_succ])
            refine reg_take (i := 5) (oi := _) (v := ?_) rfl (by kernel_rfl) (by kernel_rfl) (by kernel_rfl) (fun _ _ _ h => h) (by rfl) ?_ (by assumption) ?_
            rotate_left
            · intro w hSw; (try dsimp only at hSw); have d0 : w.cell? ⟨p, 0, none⟩ = some (.slice A1 x.now.length k1) := (by rw [hSw.1.cell]; rfl); have d1 : w.cell? ⟨p, 1, none⟩ = some (.slice A2 x.sure.length k2) := (by rw [hSw.1.cell]; rfl); have d2 : w.cell? ⟨p, 2, none⟩ = some (.slice A3 x.T.length k3) := (by rw [hSw.1.cell]; rfl); have s0 : w.cell? ⟨p + 1, 0, none⟩ = some (.int .i64 0) := (by rw [hSw.2.cell]; rfl); have s1 : w.cell? ⟨p + 1, 1, none⟩ = some (.string ⟨n.toArray⟩) := (by rw [hSw.2.cell]; rfl); have s2 : w.cell? ⟨p + 1, 2, none⟩ = some (.string ⟨t.toArray⟩) := (by rw [hSw.2.cell]; rfl); have s3 : w.cell? ⟨p + 1, 3, none⟩ = some (.string ⟨b.toArray⟩) := (by rw [hSw.2.cell]; rfl); have zD := hSw.1.lt; have zS := hSw.2.lt; go_simp; try with_reducible rfl
            (try simp only [Act.put, List.setIfInBounds_toArray, List.set_cons_zero, List.set_cons_succ])
            refine reg_take (i := 6) (oi := _) (v := ?_) rfl (by kernel_rfl) (by kernel_rfl) (by kernel_rfl) (fun _ _ _ h => h) (by rfl) ?_ (by assumption) ?_
            rotate_left
            · intro w hSw; (try dsimp only at hSw); have d0 : w.cell? ⟨p, 0, none⟩ = some (.slice A1 x.now.length k1) := (by rw [hSw.1.cell]; rfl); have d1 : w.cell? ⟨p, 1, none⟩ = some (.slice A2 x.sure.length k2) := (by rw [hSw.1.cell]; rfl); have d2 : w.cell? ⟨p, 2, none⟩ = some (.slice A3 x.T.length k3) := (by rw [hSw.1.cell]; rfl); have s0 : w.cell? ⟨p + 1, 0, none⟩ = some (.int .i64 0) := (by rw [hSw.2.cell]; rfl); have s1 : w.cell? ⟨p + 1, 1, none⟩ = some (.string ⟨n.toArray⟩) := (by rw [hSw.2.cell]; rfl); have s2 : w.cell? ⟨p + 1, 2, none⟩ = some (.string ⟨t.toArray⟩) := (by rw [hSw.2.cell]; rfl); have s3 : w.cell? ⟨p + 1, 3, none⟩ = some (.string ⟨b.toArray⟩) := (by rw [hSw.2.cell]; rfl); have zD := hSw.1.lt; have zS := hSw.2.lt; go_simp; try with_reducible rfl
            (try simp only [Act.put, List.setIfInBounds_toArray, List.set_cons_zero, List.set_cons_succ])
            refine reg_take (i := 7) (oi := _) (v := ?_) rfl (by kernel_rfl) (by kernel_rfl) (by kernel_rfl) (fun _ _ _ h => h) (by rfl) ?_ (by assumption) ?_
            rotate_left
            · intro w hSw; (try dsimp only at hSw); have d0 : w.cell? ⟨p, 0, none⟩ = some (.slice A1 x.now.length k1) := (by rw [hSw.1.cell]; rfl); have d1 : w.cell? ⟨p, 1, none⟩ = some (.slice A2 x.sure.length k2) := (by rw [hSw.1.cell]; rfl); have d2 : w.cell? ⟨p, 2, none⟩ = some (.slice A3 x.T.length k3) := (by rw [hSw.1.cell]; rfl); have s0 : w.cell? ⟨p + 1, 0, none⟩ = some (.int .i64 0) := (by rw [hSw.2.cell]; rfl); have s1 : w.cell? ⟨p + 1, 1, none⟩ = some (.string ⟨n.toArray⟩) := (by rw [hSw.2.cell]; rfl); have s2 : w.cell? ⟨p + 1, 2, none⟩ = some (.string ⟨t.toArray⟩) := (by rw [hSw.2.cell]; rfl); have s3 : w.cell? ⟨p + 1, 3, none⟩ = some (.string ⟨b.toArray⟩) := (by rw [hSw.2.cell]; rfl); have zD := hSw.1.lt; have zS := hSw.2.lt; go_simp; try with_reducible rfl
            (try simp only [Act.put, List.setIfInBounds_toArray, List.set_cons_zero, List.set_cons_succ])
            refine reg_take (i := 8) (oi := _) (v := ?_) rfl (by kernel_rfl) (by kernel_rfl) (by kernel_rfl) (fun _ _ _ h => h) (by rfl) ?_ (by assumption) ?_
            rotate_left
            · intro w hSw; (try dsimp only at hSw); have d0 : w.cell? ⟨p, 0, none⟩ = some (.slice A1 x.now.length k1) := (by rw [hSw.1.cell]; rfl); have d1 : w.cell? ⟨p, 1, none⟩ = some (.slice A2 x.sure.length k2) := (by rw [hSw.1.cell]; rfl); have d2 : w.cell? ⟨p, 2, none⟩ = some (.slice A3 x.T.length k3) := (by rw [hSw.1.cell]; rfl); have s0 : w.cell? ⟨p + 1, 0, none⟩ = some (.int .i64 0) := (by rw [hSw.2.cell]; rfl); have s1 : w.cell? ⟨p + 1, 1, none⟩ = some (.string ⟨n.toArray⟩) := (by rw [hSw.2.cell]; rfl); have s2 : w.cell? ⟨p + 1, 2, none⟩ = some (.string ⟨t.toArray⟩) := (by rw [hSw.2.cell]; rfl); have s3 : w.cell? ⟨p + 1, 3, none⟩ = some (.string ⟨b.toArray⟩) := (by rw [hSw.2.cell]; rfl); have zD := hSw.1.lt; have zS := hSw.2.lt; go_simp; try with_reducible rfl
            (try simp only [Act.put, List.setIfInBounds_toArray, List.set_cons_zero, List.set_cons_succ])
            refine reg_take (i := 10) (oi := _) (v := ?_) rfl (by kernel_rfl) (by kernel_rfl) (by kernel_rfl) (fun _ _ _ h => h) (by rfl) ?_ (by assumption) ?_
            rotate_left
            · intro w hSw; (try dsimp only at hSw); have d0 : w.cell? ⟨p, 0, none⟩ = some (.slice A1 x.now.length k1) := (by rw [hSw.1.cell]; rfl); have d1 : w.cell? ⟨p, 1, none⟩ = some (.slice A2 x.sure.length k2) := (by rw [hSw.1.cell]; rfl); have d2 : w.cell? ⟨p, 2, none⟩ = some (.slice A3 x.T.length k3) := (by rw [hSw.1.cell]; rfl); have s0 : w.cell? ⟨p + 1, 0, none⟩ = some (.int .i64 0) := (by rw [hSw.2.cell]; rfl); have s1 : w.cell? ⟨p + 1, 1, none⟩ = some (.string ⟨n.toArray⟩) := (by rw [hSw.2.cell]; rfl); have s2 : w.cell? ⟨p + 1, 2, none⟩ = some (.string ⟨t.toArray⟩) := (by rw [hSw.2.cell]; rfl); have s3 : w.cell? ⟨p + 1, 3, none⟩ = some (.string ⟨b.toArray⟩) := (by rw [hSw.2.cell]; rfl); have zD := hSw.1.lt; have zS := hSw.2.lt; go_simp; try with_reducible rfl
            (try simp only [Act.put, List.setIfInBounds_toArray, List.set_cons_zero, List.set_cons_succ])
            refine wpAnyH_ready (rs := [3, 11]) (by kernel_rfl) (by simp) ?_
            refine reg_each (o := _) rfl (fun K hK => ?_) ?_
            · skip
              go_simp
              refine (DO.out _ BD.out).mono ?_
              rintro q wx0 ⟨v3, rfl, hr3, hb3⟩
              have B0 := Lib.hid (below_trans BD.out hb3)
              have HR3 := Lib.hid hr3
              have HB3 := Lib.hid hb3
              clear hr3 hb3
              go_wp2_with (fail)
              refine hK.out _ _ ?_ (fun hHeld2 => ?_)
              · exact HS0.out.of B0.out
              clear hK K hHeld
              have hHeld := hHeld2
              clear hHeld2
              (try simp only [Act.put, List.setIfInBounds_toArray, List.set_cons_zero, List.set_cons_succ])
              obtain ⟨A4, l4, k4, rfl⟩ : ∃ A l c, v3 = .slice A l c := by obtain ⟨A, c, e⟩ := RdF.owned HR3.out; exact ⟨_, _, _, e⟩
              have HF3 := Lib.hid (RdF.of_owns HR3.out)
              clear HR3 HB3 BD
              refine wpAnyH_ready (rs := [9, 11]) (by kernel_rfl) (by simp) ?_
              refine reg_each (o := _) rfl (fun K hK => ?_) ?_
              · skip
                refine step_append_D rfl (.tmp 62) (.tmp 64) rfl w3.heap.size (.slice none 0 0) _ [] x.T rfl rfl (World.ownsRow_nil _ _ _ _) (HW3.out.kept (KeptY.below B0.out)) (by simp; omega) B0.out.size ?_
                intro v9 wx1 own9 gr9 at9
                have hb9 := grown_none gr9 rfl
                have B1 := Lib.hid (below_trans B0.out hb9)
                refine hK.out _ _ ?_ (fun hHeld2 => ?_)
                · exact HS0.out.of B1.out
                clear hK K hHeld
                have hHeld := hHeld2
                clear hHeld2
                (try simp only [Act.put, List.setIfInBounds_toArray, List.set_cons_zero, List.set_cons_succ])
                have OWN9 := Lib.hid (show wx1.ownsRow w3.heap.size 79 4 v9 x.T.length (cellsD x.T) from own9)
                have HF3 := Lib.hid (HF3.out.kept (KeptY.below hb9))
                clear own9 gr9 at9 hb9 B0
                refine wpAnyH_ready (rs := [11]) (by kernel_rfl) (by simp) ?_
                refine reg_each (o := _) rfl (fun K hK => ?_) ?_
                · skip
                  go_simp
                  have B2 := Lib.hid (B1.out.alloc B1.out.size (.cells #[.int .i64 0, .string ⟨n.toArray⟩, .string ⟨t.toArray⟩, .string ⟨b.toArray⟩] 79))
                  refine hK.out _ _ ?_ (fun hHeld2 => ?_)
                  · exact HS0.out.of B2.out
                  clear hK K hHeld
                  have hHeld := hHeld2
                  clear hHeld2
                  (try simp only [Act.put, List.setIfInBounds_toArray, List.set_cons_zero, List.set_cons_succ])
                  have P11 := Lib.hid (show RdD (wx1.alloc (.cells #[.int .i64 0, .string ⟨n.toArray⟩, .string ⟨t.toArray⟩, .string ⟨b.toArray⟩] 79)) (.slice (some ⟨wx1.heap.size, 0, none⟩) 1 1) [(⟨⟨n.toArray⟩, ⟨t.toArray⟩, sv, b, true, rm⟩ : Stp)] from RdD.one wx1 (⟨⟨n.toArray⟩, ⟨t.toArray⟩, sv, b, true, rm⟩ : Stp))
                  have AL := KeptY.below ((Below.refl wx1.heap.size wx1).alloc (Nat.le_refl _) (.cells #[.int .i64 0, .string ⟨n.toArray⟩, .string ⟨t.toArray⟩, .string ⟨b.toArray⟩] 79))
                  have HF3 := Lib.hid (HF3.out.kept AL)
                  have N11 := Lib.hid (show v9.ownBlock ≠ some wx1.heap.size from fun e => Nat.lt_irrefl _ (OWN9.out.lt _ e).2)
                  have OWN9 := Lib.hid (OWN9.out.alloc (.cells #[.int .i64 0, .string ⟨n.toArray⟩, .string ⟨t.toArray⟩, .string ⟨b.toArray⟩] 79))
                  have Z11 := Lib.hid (show wx1.heap.size < (wx1.alloc (.cells #[.int .i64 0, .string ⟨n.toArray⟩, .string ⟨t.toArray⟩, .string ⟨b.toArray⟩] 79)).heap.size by simp)
                  clear AL B1
                  generalize wx1.alloc (Obj.cells #[.int .i64 0, .string ⟨n.toArray⟩, .string ⟨t.toArray⟩, .string ⟨b.toArray⟩] 79) = wx2 at *
                  generalize wx1.heap.size = p11 at *
                  refine wpAnyH_ready (rs := [12]) (by kernel_rfl) (by simp) ?_
                  refine reg_each (o := _) rfl (fun K hK => ?_) ?_
                  · skip
                    refine step_append_D rfl (.tmp 65) (.tmp 67) rfl w3.heap.size v9 _ x.T [(⟨⟨n.toArray⟩, ⟨t.toArray⟩, sv, b, true, rm⟩ : Stp)] rfl rfl OWN9.out P11.out (by simp; omega) B2.out.size ?_
                    intro v12 wx3 own12 gr12 at12
                    have B3 := Lib.hid (below_grown' B2.out gr12 (fun k e => (OWN9.out.lt k e).1) B2.out.size)
                    refine hK.out _ _ ?_ (fun hHeld2 => ?_)
                    · exact HS0.out.of B3.out
                    clear hK K hHeld
                    have hHeld := hHeld2
                    clear hHeld2
                    (try simp only [Act.put, List.setIfInBounds_toArray, List.set_cons_zero, List.set_cons_succ])
                    have HF3 := Lib.hid (HF3.out.app OWN9.out gr12)
                    have OWN12 := Lib.hid own12
                    obtain ⟨A5, l5, k5, rfl⟩ : ∃ A l c, v12 = .slice A l c := by obtain ⟨A, c, e⟩ := RdD.owned own12; exact ⟨_, _, _, e⟩
                    clear own12 gr12 at12 OWN9 P11 B2
                    refine reg_take (i := 13) (oi := _) (v := ?_) rfl (by kernel_rfl) (by kernel_rfl) (by kernel_rfl) (fun _ _ _ h => h) (by rfl) ?_ (by assumption) ?_
                    rotate_left
                    · intro w hSw; (try dsimp only at hSw); have d0 : w.cell? ⟨p, 0, none⟩ = some (.slice A1 x.now.length k1) := (by rw [hSw.1.cell]; rfl); have d1 : w.cell? ⟨p, 1, none⟩ = some (.slice A2 x.sure.length k2) := (by rw [hSw.1.cell]; rfl); have d2 : w.cell? ⟨p, 2, none⟩ = some (.slice A3 x.T.length k3) := (by rw [hSw.1.cell]; rfl); have s0 : w.cell? ⟨p + 1, 0, none⟩ = some (.int .i64 0) := (by rw [hSw.2.cell]; rfl); have s1 : w.cell? ⟨p + 1, 1, none⟩ = some (.string ⟨n.toArray⟩) := (by rw [hSw.2.cell]; rfl); have s2 : w.cell? ⟨p + 1, 2, none⟩ = some (.string ⟨t.toArray⟩) := (by rw [hSw.2.cell]; rfl); have s3 : w.cell? ⟨p + 1, 3, none⟩ = some (.string ⟨b.toArray⟩) := (by rw [hSw.2.cell]; rfl); have zD := hSw.1.lt; have zS := hSw.2.lt; go_simp; try with_reducible rfl
                    (try simp only [Act.put, List.setIfInBounds_toArray, List.set_cons_zero, List.set_cons_succ])
                    refine wpAnyH_ready (rs := [14]) (by kernel_rfl) (by simp) ?_
                    refine reg_each (o := _) rfl (fun K hK => ?_) ?_
                    · skip
                      have kZ0 := HWZ.out.below B3.out
                      have y0 : wx3.cell? ⟨p + 2, 0, none⟩ = some (.slice none 0 0) := by rw [kZ0.cell]; rfl
                      have y1 : wx3.cell? ⟨p + 2, 1, none⟩ = some (.slice none 0 0) := by rw [kZ0.cell]; rfl
                      have y2 : wx3.cell? ⟨p + 2, 2, none⟩ = some (.slice none 0 0) := by rw [kZ0.cell]; rfl
                      have f0 := kZ0.frozen 0
                      have f1 := kZ0.frozen 1
                      have f2 := kZ0.frozen 2
                      have zZ := kZ0.lt
                      have hk4 : k4 = k4 := rfl
                      go_simp
                      refine hK.out _ _ ?_ (fun hHeld2 => ?_)
                      · exact ((hHeld.set 0 _).set 1 _).set 2 _
                      clear hK K hHeld
                      have hHeld := hHeld2
                      clear hHeld2
                      (try simp only [Act.put, List.setIfInBounds_toArray, List.set_cons_zero, List.set_cons_succ])
                      refine reg_take (i := 15) (oi := _) (v := ?_) rfl (by kernel_rfl) (by kernel_rfl) (by kernel_rfl) (fun _ _ _ h => h) (by rfl) ?_ (by assumption) ?_
                      rotate_left
                      · intro w hSw; (try dsimp only at hSw); have d0 : w.cell? ⟨p, 0, none⟩ = some (.slice A1 x.now.length k1) := (by rw [hSw.1.cell]; rfl); have d1 : w.cell? ⟨p, 1, none⟩ = some (.slice A2 x.sure.length k2) := (by rw [hSw.1.cell]; rfl); have d2 : w.cell? ⟨p, 2, none⟩ = some (.slice A3 x.T.length k3) := (by rw [hSw.1.cell]; rfl); have s0 : w.cell? ⟨p + 1, 0, none⟩ = some (.int .i64 0) := (by rw [hSw.2.cell]; rfl); have s1 : w.cell? ⟨p + 1, 1, none⟩ = some (.string ⟨n.toArray⟩) := (by rw [hSw.2.cell]; rfl); have s2 : w.cell? ⟨p + 1, 2, none⟩ = some (.string ⟨t.toArray⟩) := (by rw [hSw.2.cell]; rfl); have s3 : w.cell? ⟨p + 1, 3, none⟩ = some (.string ⟨b.toArray⟩) := (by rw [hSw.2.cell]; rfl); have zD := hSw.1.lt; have zS := hSw.2.lt; go_simp; try with_reducible rfl
                      (try simp only [Act.put, List.setIfInBounds_toArray, List.set_cons_zero, List.set_cons_succ])
                      refine wpAnyH_done (by kernel_rfl) ?_ _
                      refine NoPanic.normal ?_
                      clear hHeld y0 y1 y2 f0 f1 f2 zZ
                      go_wp2_with (fail)
                      have kZ1 := kZ0.put 0 (.slice A4 l4 k4) rfl
                      have kZ2 := kZ1.put 1 (.slice A2 x.sure.length k2) rfl
                      have kZ3 := kZ2.put 2 (.slice A5 l5 k5) rfl
                      have KK := (KeptD.set kZ0 0 (.slice A4 l4 k4)).trans ((KeptD.set kZ1 1 (.slice A2 x.sure.length k2)).trans (KeptD.set kZ2 2 (.slice A5 l5 k5)))
                      rw [HC.out, HXX.out]
                      refine bodyPost_end (results_ct_row rfl _ _ (p + 2) _ _ _ _ rfl kZ3) rfl ⟨_, rfl, ⟨_, _, _, rfl, HF3.out.keptD KK, (HW2.out.kept (KeptY.below B3.out)).keptD KK, (RdD.of_owns OWN12.out).keptD KK⟩, ?_⟩
                      exact below_set3 (HWB.out.trans (B3.out.mono HWB.out.size)) (by rw [HP.out]; omega)
                    exact AllReadyH.nil
                  exact AllReadyH.nil
                exact AllReadyH.nil
              refine reg_each (o := _) rfl (fun K hK => ?_) ?_
              · skip
                go_simp
                have B1 := Lib.hid (B0.out.alloc B0.out.size (.cells #[.int .i64 0, .string ⟨n.toArray⟩, .string ⟨t.toArray⟩, .string ⟨b.toArray⟩] 79))
                refine hK.out _ _ ?_ (fun hHeld2 => ?_)
                · exact HS0.out.of B1.out
                clear hK K hHeld
                have hHeld := hHeld2
                clear hHeld2
                (try simp only [Act.put, List.setIfInBounds_toArray, List.set_cons_zero, List.set_cons_succ])
                have P11 := Lib.hid (show RdD (wx0.alloc (.cells #[.int .i64 0, .string ⟨n.toArray⟩, .string ⟨t.toArray⟩, .string ⟨b.toArray⟩] 79)) (.slice (some ⟨wx0.heap.size, 0, none⟩) 1 1) [(⟨⟨n.toArray⟩, ⟨t.toArray⟩, sv, b, true, rm⟩ : Stp)] from RdD.one wx0 (⟨⟨n.toArray⟩, ⟨t.toArray⟩, sv, b, true, rm⟩ : Stp))
                have AL := KeptY.below ((Below.refl wx0.heap.size wx0).alloc (Nat.le_refl _) (.cells #[.int .i64 0, .string ⟨n.toArray⟩, .string ⟨t.toArray⟩, .string ⟨b.toArray⟩] 79))
                have HF3 := Lib.hid (HF3.out.kept AL)
                have Z11 := Lib.hid (show wx0.heap.size < (wx0.alloc (.cells #[.int .i64 0, .string ⟨n.toArray⟩, .string ⟨t.toArray⟩, .string ⟨b.toArray⟩] 79)).heap.size by simp)
                clear AL B0
                generalize wx0.alloc (Obj.cells #[.int .i64 0, .string ⟨n.toArray⟩, .string ⟨t.toArray⟩, .string ⟨b.toArray⟩] 79) = wx1 at *
                generalize wx0.heap.size = p11 at *
                refine wpAnyH_ready (rs := [9]) (by kernel_rfl) (by simp) ?_
                refine reg_each (o := _) rfl (fun K hK => ?_) ?_
                · skip
                  refine step_append_D rfl (.tmp 62) (.tmp 64) rfl w3.heap.size (.slice none 0 0) _ [] x.T rfl rfl (World.ownsRow_nil _ _ _ _) (HW3.out.kept (KeptY.below B1.out)) (by simp; omega) B1.out.size ?_
                  intro v9 wx2 own9 gr9 at9
                  have hb9 := grown_none gr9 rfl
                  have B2 := Lib.hid (below_trans B1.out hb9)
                  refine hK.out _ _ ?_ (fun hHeld2 => ?_)
                  · exact HS0.out.of B2.out
                  clear hK K hHeld
                  have hHeld := hHeld2
                  clear hHeld2
                  (try simp only [Act.put, List.setIfInBounds_toArray, List.set_cons_zero, List.set_cons_succ])
                  have OWN9 := Lib.hid (show wx2.ownsRow w3.heap.size 79 4 v9 x.T.length (cellsD x.T) from own9)
                  have HF3 := Lib.hid (HF3.out.kept (KeptY.below hb9))
                  have P11 := Lib.hid (P11.out.kept (KeptY.below hb9))
                  have N11 := Lib.hid (show v9.ownBlock ≠ some p11 from fun e => by
                    rcases at9 with h | h
                    · rw [h] at e; cases e
                    · rw [h] at e; have := Option.some.inj e; have := Z11.out; omega)
                  clear own9 gr9 at9 hb9 B1
                  refine wpAnyH_ready (rs := [12]) (by kernel_rfl) (by simp) ?_
                  refine reg_each (o := _) rfl (fun K hK => ?_) ?_
                  · skip
                    refine step_append_D rfl (.tmp 65) (.tmp 67) rfl w3.heap.size v9 _ x.T [(⟨⟨n.toArray⟩, ⟨t.toArray⟩, sv, b, true, rm⟩ : Stp)] rfl rfl OWN9.out P11.out (by simp; omega) B2.out.size ?_
                    intro v12 wx3 own12 gr12 at12
                    have B3 := Lib.hid (below_grown' B2.out gr12 (fun k e => (OWN9.out.lt k e).1) B2.out.size)
                    refine hK.out _ _ ?_ (fun hHeld2 => ?_)
                    · exact HS0.out.of B3.out
                    clear hK K hHeld
                    have hHeld := hHeld2
                    clear hHeld2
                    (try simp only [Act.put, List.setIfInBounds_toArray, List.set_cons_zero, List.set_cons_succ])
                    have HF3 := Lib.hid (HF3.out.app OWN9.out gr12)
                    have OWN12 := Lib.hid own12
                    obtain ⟨A5, l5, k5, rfl⟩ : ∃ A l c, v12 = .slice A l c := by obtain ⟨A, c, e⟩ := RdD.owned own12; exact ⟨_, _, _, e⟩
                    clear own12 gr12 at12 OWN9 P11 B2
                    refine reg_take (i := 13) (oi := _) (v := ?_) rfl (by kernel_rfl) (by kernel_rfl) (by kernel_rfl) (fun _ _ _ h => h) (by rfl) ?_ (by assumption) ?_
                    rotate_left
                    · intro w hSw; (try dsimp only at hSw); have d0 : w.cell? ⟨p, 0, none⟩ = some (.slice A1 x.now.length k1) := (by rw [hSw.1.cell]; rfl); have d1 : w.cell? ⟨p, 1, none⟩ = some (.slice A2 x.sure.length k2) := (by rw [hSw.1.cell]; rfl); have d2 : w.cell? ⟨p, 2, none⟩ = some (.slice A3 x.T.length k3) := (by rw [hSw.1.cell]; rfl); have s0 : w.cell? ⟨p + 1, 0, none⟩ = some (.int .i64 0) := (by rw [hSw.2.cell]; rfl); have s1 : w.cell? ⟨p + 1, 1, none⟩ = some (.string ⟨n.toArray⟩) := (by rw [hSw.2.cell]; rfl); have s2 : w.cell? ⟨p + 1, 2, none⟩ = some (.string ⟨t.toArray⟩) := (by rw [hSw.2.cell]; rfl); have s3 : w.cell? ⟨p + 1, 3, none⟩ = some (.string ⟨b.toArray⟩) := (by rw [hSw.2.cell]; rfl); have zD := hSw.1.lt; have zS := hSw.2.lt; go_simp; try with_reducible rfl
                    (try simp only [Act.put, List.setIfInBounds_toArray, List.set_cons_zero, List.set_cons_succ])
                    refine wpAnyH_ready (rs := [14]) (by kernel_rfl) (by simp) ?_
                    refine reg_each (o := _) rfl (fun K hK => ?_) ?_
                    · skip
                      have kZ0 := HWZ.out.below B3.out
                      have y0 : wx3.cell? ⟨p + 2, 0, none⟩ = some (.slice none 0 0) := by rw [kZ0.cell]; rfl
                      have y1 : wx3.cell? ⟨p + 2, 1, none⟩ = some (.slice none 0 0) := by rw [kZ0.cell]; rfl
                      have y2 : wx3.cell? ⟨p + 2, 2, none⟩ = some (.slice none 0 0) := by rw [kZ0.cell]; rfl
                      have f0 := kZ0.frozen 0
                      have f1 := kZ0.frozen 1
                      have f2 := kZ0.frozen 2
                      have zZ := kZ0.lt
                      have hk4 : k4 = k4 := rfl
                      go_simp
                      refine hK.out _ _ ?_ (fun hHeld2 => ?_)
                      · exact ((hHeld.set 0 _).set 1 _).set 2 _
                      clear hK K hHeld
                      have hHeld := hHeld2
                      clear hHeld2
                      (try simp only [Act.put, List.setIfInBounds_toArray, List.set_cons_zero, List.set_cons_succ])
                      refine reg_take (i := 15) (oi := _) (v := ?_) rfl (by kernel_rfl) (by kernel_rfl) (by kernel_rfl) (fun _ _ _ h => h) (by rfl) ?_ (by assumption) ?_
                      rotate_left
                      · intro w hSw; (try dsimp only at hSw); have d0 : w.cell? ⟨p, 0, none⟩ = some (.slice A1 x.now.length k1) := (by rw [hSw.1.cell]; rfl); have d1 : w.cell? ⟨p, 1, none⟩ = some (.slice A2 x.sure.length k2) := (by rw [hSw.1.cell]; rfl); have d2 : w.cell? ⟨p, 2, none⟩ = some (.slice A3 x.T.length k3) := (by rw [hSw.1.cell]; rfl); have s0 : w.cell? ⟨p + 1, 0, none⟩ = some (.int .i64 0) := (by rw [hSw.2.cell]; rfl); have s1 : w.cell? ⟨p + 1, 1, none⟩ = some (.string ⟨n.toArray⟩) := (by rw [hSw.2.cell]; rfl); have s2 : w.cell? ⟨p + 1, 2, none⟩ = some (.string ⟨t.toArray⟩) := (by rw [hSw.2.cell]; rfl); have s3 : w.cell? ⟨p + 1, 3, none⟩ = some (.string ⟨b.toArray⟩) := (by rw [hSw.2.cell]; rfl); have zD := hSw.1.lt; have zS := hSw.2.lt; go_simp; try with_reducible rfl
                      (try simp only [Act.put, List.setIfInBounds_toArray, List.set_cons_zero, List.set_cons_succ])
                      refine wpAnyH_done (by kernel_rfl) ?_ _
                      refine NoPanic.normal ?_
                      clear hHeld y0 y1 y2 f0 f1 f2 zZ
                      go_wp2_with (fail)
                      have kZ1 := kZ0.put 0 (.slice A4 l4 k4) rfl
                      have kZ2 := kZ1.put 1 (.slice A2 x.sure.length k2) rfl
                      have kZ3 := kZ2.put 2 (.slice A5 l5 k5) rfl
                      have KK := (KeptD.set kZ0 0 (.slice A4 l4 k4)).trans ((KeptD.set kZ1 1 (.slice A2 x.sure.length k2)).trans (KeptD.set kZ2 2 (.slice A5 l5 k5)))
                      rw [HC.out, HXX.out]
                      refine bodyPost_end (results_ct_row rfl _ _ (p + 2) _ _ _ _ rfl kZ3) rfl ⟨_, rfl, ⟨_, _, _, rfl, HF3.out.keptD KK, (HW2.out.kept (KeptY.below B3.out)).keptD KK, (RdD.of_owns OWN12.out).keptD KK⟩, ?_⟩
                      exact below_set3 (HWB.out.trans (B3.out.mono HWB.out.size)) (by rw [HP.out]; omega)
                    exact AllReadyH.nil
                  exact AllReadyH.nil
                exact AllReadyH.nil
              exact AllReadyH.nil
            refine reg_each (o := _) rfl (fun K hK => ?_) ?_
            · skip
              go_simp
              have B0 := Lib.hid (BD.out.alloc BD.out.size (.cells #[.int .i64 0, .string ⟨n.toArray⟩, .string ⟨t.toArray⟩, .string ⟨b.toArray⟩] 79))
              refine hK.out _ _ ?_ (fun hHeld2 => ?_)
              · exact HS0.out.of B0.out
              clear hK K hHeld
              have hHeld := hHeld2
              clear hHeld2
              (try simp only [Act.put, List.setIfInBounds_toArray, List.set_cons_zero, List.set_cons_succ])
              have P11 := Lib.hid (show RdD (wd.alloc (.cells #[.int .i64 0, .string ⟨n.toArray⟩, .string ⟨t.toArray⟩, .string ⟨b.toArray⟩] 79)) (.slice (some ⟨wd.heap.size, 0, none⟩) 1 1) [(⟨⟨n.toArray⟩, ⟨t.toArray⟩, sv, b, true, rm⟩ : Stp)] from RdD.one wd (⟨⟨n.toArray⟩, ⟨t.toArray⟩, sv, b, true, rm⟩ : Stp))
              have AL := KeptY.below ((Below.refl wd.heap.size wd).alloc (Nat.le_refl _) (.cells #[.int .i64 0, .string ⟨n.toArray⟩, .string ⟨t.toArray⟩, .string ⟨b.toArray⟩] 79))
              have Z11 := Lib.hid (show wd.heap.size < (wd.alloc (.cells #[.int .i64 0, .string ⟨n.toArray⟩, .string ⟨t.toArray⟩, .string ⟨b.toArray⟩] 79)).heap.size by simp)
              clear AL BD
              generalize wd.alloc (Obj.cells #[.int .i64 0, .string ⟨n.toArray⟩, .string ⟨t.toArray⟩, .string ⟨b.toArray⟩] 79) = wx0 at *
              generalize wd.heap.size = p11 at *
              refine wpAnyH_ready (rs := [3]) (by kernel_rfl) (by simp) ?_
              refine reg_each (o := _) rfl (fun K hK => ?_) ?_
              · skip
                go_simp
                refine (DO.out _ B0.out).mono ?_
                rintro q wx1 ⟨v3, rfl, hr3, hb3⟩
                have B1 := Lib.hid (below_trans B0.out hb3)
                have HR3 := Lib.hid hr3
                have HB3 := Lib.hid hb3
                clear hr3 hb3
                go_wp2_with (fail)
                refine hK.out _ _ ?_ (fun hHeld2 => ?_)
                · exact HS0.out.of B1.out
                clear hK K hHeld
                have hHeld := hHeld2
                clear hHeld2
                (try simp only [Act.put, List.setIfInBounds_toArray, List.set_cons_zero, List.set_cons_succ])
                have Z11 := Lib.hid (Nat.lt_of_lt_of_le Z11.out HB3.out.size)
                obtain ⟨A4, l4, k4, rfl⟩ : ∃ A l c, v3 = .slice A l c := by obtain ⟨A, c, e⟩ := RdF.owned HR3.out; exact ⟨_, _, _, e⟩
                have HF3 := Lib.hid (RdF.of_owns HR3.out)
                have P11 := Lib.hid (P11.out.kept (KeptY.below HB3.out))
                clear HR3 HB3 B0
                refine wpAnyH_ready (rs := [9]) (by kernel_rfl) (by simp) ?_
                refine reg_each (o := _) rfl (fun K hK => ?_) ?_
                · skip
                  refine step_append_D rfl (.tmp 62) (.tmp 64) rfl w3.heap.size (.slice none 0 0) _ [] x.T rfl rfl (World.ownsRow_nil _ _ _ _) (HW3.out.kept (KeptY.below B1.out)) (by simp; omega) B1.out.size ?_
                  intro v9 wx2 own9 gr9 at9
                  have hb9 := grown_none gr9 rfl
                  have B2 := Lib.hid (below_trans B1.out hb9)
                  refine hK.out _ _ ?_ (fun hHeld2 => ?_)
                  · exact HS0.out.of B2.out
                  clear hK K hHeld
                  have hHeld := hHeld2
                  clear hHeld2
                  (try simp only [Act.put, List.setIfInBounds_toArray, List.set_cons_zero, List.set_cons_succ])
                  have OWN9 := Lib.hid (show wx2.ownsRow w3.heap.size 79 4 v9 x.T.length (cellsD x.T) from own9)
                  have HF3 := Lib.hid (HF3.out.kept (KeptY.below hb9))
                  have P11 := Lib.hid (P11.out.kept (KeptY.below hb9))
                  have N11 := Lib.hid (show v9.ownBlock ≠ some p11 from fun e => by
                    rcases at9 with h | h
                    · rw [h] at e; cases e
                    · rw [h] at e; have := Option.some.inj e; have := Z11.out; omega)
                  clear own9 gr9 at9 hb9 B1
                  refine wpAnyH_ready (rs := [12]) (by kernel_rfl) (by simp) ?_
                  refine reg_each (o := _) rfl (fun K hK => ?_) ?_
                  · skip
                    refine step_append_D rfl (.tmp 65) (.tmp 67) rfl w3.heap.size v9 _ x.T [(⟨⟨n.toArray⟩, ⟨t.toArray⟩, sv, b, true, rm⟩ : Stp)] rfl rfl OWN9.out P11.out (by simp; omega) B2.out.size ?_
                    intro v12 wx3 own12 gr12 at12
                    have B3 := Lib.hid (below_grown' B2.out gr12 (fun k e => (OWN9.out.lt k e).1) B2.out.size)
                    refine hK.out _ _ ?_ (fun hHeld2 => ?_)
                    · exact HS0.out.of B3.out
                    clear hK K hHeld
                    have hHeld := hHeld2
                    clear hHeld2
                    (try simp only [Act.put, List.setIfInBounds_toArray, List.set_cons_zero, List.set_cons_succ])
                    have HF3 := Lib.hid (HF3.out.app OWN9.out gr12)
                    have OWN12 := Lib.hid own12
                    obtain ⟨A5, l5, k5, rfl⟩ : ∃ A l c, v12 = .slice A l c := by obtain ⟨A, c, e⟩ := RdD.owned own12; exact ⟨_, _, _, e⟩
                    clear own12 gr12 at12 OWN9 P11 B2
                    refine reg_take (i := 13) (oi := _) (v := ?_) rfl (by kernel_rfl) (by kernel_rfl) (by kernel_rfl) (fun _ _ _ h => h) (by rfl) ?_ (by assumption) ?_
                    rotate_left
                    · intro w hSw; (try dsimp only at hSw); have d0 : w.cell? ⟨p, 0, none⟩ = some (.slice A1 x.now.length k1) := (by rw [hSw.1.cell]; rfl); have d1 : w.cell? ⟨p, 1, none⟩ = some (.slice A2 x.sure.length k2) := (by rw [hSw.1.cell]; rfl); have d2 : w.cell? ⟨p, 2, none⟩ = some (.slice A3 x.T.length k3) := (by rw [hSw.1.cell]; rfl); have s0 : w.cell? ⟨p + 1, 0, none⟩ = some (.int .i64 0) := (by rw [hSw.2.cell]; rfl); have s1 : w.cell? ⟨p + 1, 1, none⟩ = some (.string ⟨n.toArray⟩) := (by rw [hSw.2.cell]; rfl); have s2 : w.cell? ⟨p + 1, 2, none⟩ = some (.string ⟨t.toArray⟩) := (by rw [hSw.2.cell]; rfl); have s3 : w.cell? ⟨p + 1, 3, none⟩ = some (.string ⟨b.toArray⟩) := (by rw [hSw.2.cell]; rfl); have zD := hSw.1.lt; have zS := hSw.2.lt; go_simp; try with_reducible rfl
                    (try simp only [Act.put, List.setIfInBounds_toArray, List.set_cons_zero, List.set_cons_succ])
                    refine wpAnyH_ready (rs := [14]) (by kernel_rfl) (by simp) ?_
                    refine reg_each (o := _) rfl (fun K hK => ?_) ?_
                    · skip
                      have kZ0 := HWZ.out.below B3.out
                      have y0 : wx3.cell? ⟨p + 2, 0, none⟩ = some (.slice none 0 0) := by rw [kZ0.cell]; rfl
                      have y1 : wx3.cell? ⟨p + 2, 1, none⟩ = some (.slice none 0 0) := by rw [kZ0.cell]; rfl
                      have y2 : wx3.cell? ⟨p + 2, 2, none⟩ = some (.slice none 0 0) := by rw [kZ0.cell]; rfl
                      have f0 := kZ0.frozen 0
                      have f1 := kZ0.frozen 1
                      have f2 := kZ0.frozen 2
                      have zZ := kZ0.lt
                      have hk4 : k4 = k4 := rfl
                      go_simp
                      refine hK.out _ _ ?_ (fun hHeld2 => ?_)
                      · exact ((hHeld.set 0 _).set 1 _).set 2 _
                      clear hK K hHeld
                      have hHeld := hHeld2
                      clear hHeld2
                      (try simp only [Act.put, List.setIfInBounds_toArray, List.set_cons_zero, List.set_cons_succ])
                      refine reg_take (i := 15) (oi := _) (v := ?_) rfl (by kernel_rfl) (by kernel_rfl) (by kernel_rfl) (fun _ _ _ h => h) (by rfl) ?_ (by assumption) ?_
                      rotate_left
                      · intro w hSw; (try dsimp only at hSw); have d0 : w.cell? ⟨p, 0, none⟩ = some (.slice A1 x.now.length k1) := (by rw [hSw.1.cell]; rfl); have d1 : w.cell? ⟨p, 1, none⟩ = some (.slice A2 x.sure.length k2) := (by rw [hSw.1.cell]; rfl); have d2 : w.cell? ⟨p, 2, none⟩ = some (.slice A3 x.T.length k3) := (by rw [hSw.1.cell]; rfl); have s0 : w.cell? ⟨p + 1, 0, none⟩ = some (.int .i64 0) := (by rw [hSw.2.cell]; rfl); have s1 : w.cell? ⟨p + 1, 1, none⟩ = some (.string ⟨n.toArray⟩) := (by rw [hSw.2.cell]; rfl); have s2 : w.cell? ⟨p + 1, 2, none⟩ = some (.string ⟨t.toArray⟩) := (by rw [hSw.2.cell]; rfl); have s3 : w.cell? ⟨p + 1, 3, none⟩ = some (.string ⟨b.toArray⟩) := (by rw [hSw.2.cell]; rfl); have zD := hSw.1.lt; have zS := hSw.2.lt; go_simp; try with_reducible rfl
                      (try simp only [Act.put, List.setIfInBounds_toArray, List.set_cons_zero, List.set_cons_succ])
                      refine wpAnyH_done (by kernel_rfl) ?_ _
                      refine NoPanic.normal ?_
                      clear hHeld y0 y1 y2 f0 f1 f2 zZ
                      go_wp2_with (fail)
                      have kZ1 := kZ0.put 0 (.slice A4 l4 k4) rfl
                      have kZ2 := kZ1.put 1 (.slice A2 x.sure.length k2) rfl
                      have kZ3 := kZ2.put 2 (.slice A5 l5 k5) rfl
                      have KK := (KeptD.set kZ0 0 (.slice A4 l4 k4)).trans ((KeptD.set kZ1 1 (.slice A2 x.sure.length k2)).trans (KeptD.set kZ2 2 (.slice A5 l5 k5)))
                      rw [HC.out, HXX.out]
                      refine bodyPost_end (results_ct_row rfl _ _ (p + 2) _ _ _ _ rfl kZ3) rfl ⟨_, rfl, ⟨_, _, _, rfl, HF3.out.keptD KK, (HW2.out.kept (KeptY.below B3.out)).keptD KK, (RdD.of_owns OWN12.out).keptD KK⟩, ?_⟩
                      exact below_set3 (HWB.out.trans (B3.out.mono HWB.out.size)) (by rw [HP.out]; omega)
                    exact AllReadyH.nil
                  exact AllReadyH.nil
                exact AllReadyH.nil
              exact AllReadyH.nil
            exact AllReadyH.nil
  | false =>
    cases rm with
    | true =>
      have hk0 : k = 2 := by rw [← hk]; rfl
      subst hk0
      clear hk
      go_enter Tryd.func32, Tryd.ntmps32
      go_upto_region 1 with (fail)
      generalize ((w.alloc (.cells #[.slice A1 x.now.length k1, .slice A2 x.sure.length k2, .slice A3 x.T.length k3] 41)).alloc (.cells #[.int .i64 2, .string ⟨n.toArray⟩, .string ⟨t.toArray⟩, .string ⟨b.toArray⟩] 79)).alloc (.cells #[.slice none 0 0, .slice none 0 0, .slice none 0 0] 41) = w1 at *
      generalize hp : w.heap.size = p at *
      have HP := Lib.hid hp
      clear hp
      have HBW := Lib.hid (Below.refl w1.heap.size w1)
      have kD := HKD.out.below HBW.out
      have kS := HKS.out.below HBW.out
      have kZ := HKZ.out.below HBW.out
      have d0 : w1.cell? ⟨p, 0, none⟩ = some (.slice A1 x.now.length k1) := by rw [kD.cell]; rfl
      have d1 : w1.cell? ⟨p, 1, none⟩ = some (.slice A2 x.sure.length k2) := by rw [kD.cell]; rfl
      have d2 : w1.cell? ⟨p, 2, none⟩ = some (.slice A3 x.T.length k3) := by rw [kD.cell]; rfl
      have s0 : w1.cell? ⟨p + 1, 0, none⟩ = some (.int .i64 2) := by rw [kS.cell]; rfl
      have s1 : w1.cell? ⟨p + 1, 1, none⟩ = some (.string ⟨n.toArray⟩) := by rw [kS.cell]; rfl
      have s2 : w1.cell? ⟨p + 1, 2, none⟩ = some (.string ⟨t.toArray⟩) := by rw [kS.cell]; rfl
      have s3 : w1.cell? ⟨p + 1, 3, none⟩ = some (.string ⟨b.toArray⟩) := by rw [kS.cell]; rfl
      have y0 : w1.cell? ⟨p + 2, 0, none⟩ = some (.slice none 0 0) := by rw [kZ.cell]; rfl
      have f0 := kZ.frozen 0
      have y1 : w1.cell? ⟨p + 2, 1, none⟩ = some (.slice none 0 0) := by rw [kZ.cell]; rfl
      have f1 := kZ.frozen 1
      have y2 : w1.cell? ⟨p + 2, 2, none⟩ = some (.slice none 0 0) := by rw [kZ.cell]; rfl
      have f2 := kZ.frozen 2
      have zD := kD.lt
      have zS := kS.lt
      have zZ := kZ.lt
      clear kD kS kZ
      have NW := docnamed_walk ⟨n.toArray⟩ hn63 w1
      go_wp2_with (fail)
      refine Calls.mono NW ?_
      rintro y w2 ⟨rfl, hb⟩
      have HB2 := Lib.hid (below_trans HBW.out hb)
      rw [show (ByteArray.mk n.toArray).data.toList = n from rfl]
      clear NW hb HBW d0 d1 d2 s0 s1 s2 s3 y0 y1 y2 f0 f1 f2 zD zS zZ
      have HBW := HB2
      clear HB2
      cases hnn : namedF n with
      | false =>
        have kD := HKD.out.below HBW.out
        have kS := HKS.out.below HBW.out
        have kZ := HKZ.out.below HBW.out
        have d0 : w2.cell? ⟨p, 0, none⟩ = some (.slice A1 x.now.length k1) := by rw [kD.cell]; rfl
        have d1 : w2.cell? ⟨p, 1, none⟩ = some (.slice A2 x.sure.length k2) := by rw [kD.cell]; rfl
        have d2 : w2.cell? ⟨p, 2, none⟩ = some (.slice A3 x.T.length k3) := by rw [kD.cell]; rfl
        have s0 : w2.cell? ⟨p + 1, 0, none⟩ = some (.int .i64 2) := by rw [kS.cell]; rfl
        have s1 : w2.cell? ⟨p + 1, 1, none⟩ = some (.string ⟨n.toArray⟩) := by rw [kS.cell]; rfl
        have s2 : w2.cell? ⟨p + 1, 2, none⟩ = some (.string ⟨t.toArray⟩) := by rw [kS.cell]; rfl
        have s3 : w2.cell? ⟨p + 1, 3, none⟩ = some (.string ⟨b.toArray⟩) := by rw [kS.cell]; rfl
        have y0 : w2.cell? ⟨p + 2, 0, none⟩ = some (.slice none 0 0) := by rw [kZ.cell]; rfl
        have f0 := kZ.frozen 0
        have y1 : w2.cell? ⟨p + 2, 1, none⟩ = some (.slice none 0 0) := by rw [kZ.cell]; rfl
        have f1 := kZ.frozen 1
        have y2 : w2.cell? ⟨p + 2, 2, none⟩ = some (.slice none 0 0) := by rw [kZ.cell]; rfl
        have f2 := kZ.frozen 2
        have zD := kD.lt
        have zS := kS.lt
        have zZ := kZ.lt
        clear kD kS kZ
        have HC := Lib.hid (show tryN x n t b false true = 11 from by unfold tryN; rw [if_pos hnn])
        have HXX := Lib.hid (show TryX x n t b sv false true = x from if_neg (by rw [HC.out]; decide))
        go_wp2_with (fail)
        have kZ0 := HKZ.out.below HBW.out
        have kZ1 := kZ0.put 0 (.slice A1 x.now.length k1) rfl
        have kZ2 := kZ1.put 1 (.slice A2 x.sure.length k2) rfl
        have kZ3 := kZ2.put 2 (.slice A3 x.T.length k3) rfl
        have KK := ((KeptD.of (KeptY.below HBW.out)).trans (KeptD.set kZ0 0 (.slice A1 x.now.length k1))).trans ((KeptD.set kZ1 1 (.slice A2 x.sure.length k2)).trans (KeptD.set kZ2 2 (.slice A3 x.T.length k3)))
        rw [HC.out, HXX.out]
        refine bodyPost_end (results_ct_row rfl _ _ (p + 2) _ _ _ _ rfl kZ3) rfl ⟨_, rfl, ?_, ?_⟩
        · exact ⟨_, _, _, rfl, H1.out.keptD KK, H2.out.keptD KK, H3.out.keptD KK⟩
        · rw [HP.out]
          exact below_set3 (HBZ.out.trans (HBW.out.mono (by have := HKD.out.lt; omega))) (by omega)
      | true =>
        have kD := HKD.out.below HBW.out
        have kS := HKS.out.below HBW.out
        have kZ := HKZ.out.below HBW.out
        have d0 : w2.cell? ⟨p, 0, none⟩ = some (.slice A1 x.now.length k1) := by rw [kD.cell]; rfl
        have d1 : w2.cell? ⟨p, 1, none⟩ = some (.slice A2 x.sure.length k2) := by rw [kD.cell]; rfl
        have d2 : w2.cell? ⟨p, 2, none⟩ = some (.slice A3 x.T.length k3) := by rw [kD.cell]; rfl
        have s0 : w2.cell? ⟨p + 1, 0, none⟩ = some (.int .i64 2) := by rw [kS.cell]; rfl
        have s1 : w2.cell? ⟨p + 1, 1, none⟩ = some (.string ⟨n.toArray⟩) := by rw [kS.cell]; rfl
        have s2 : w2.cell? ⟨p + 1, 2, none⟩ = some (.string ⟨t.toArray⟩) := by rw [kS.cell]; rfl
        have s3 : w2.cell? ⟨p + 1, 3, none⟩ = some (.string ⟨b.toArray⟩) := by rw [kS.cell]; rfl
        have y0 : w2.cell? ⟨p + 2, 0, none⟩ = some (.slice none 0 0) := by rw [kZ.cell]; rfl
        have f0 := kZ.frozen 0
        have y1 : w2.cell? ⟨p + 2, 1, none⟩ = some (.slice none 0 0) := by rw [kZ.cell]; rfl
        have f1 := kZ.frozen 1
        have y2 : w2.cell? ⟨p + 2, 2, none⟩ = some (.slice none 0 0) := by rw [kZ.cell]; rfl
        have f2 := kZ.frozen 2
        have zD := kD.lt
        have zS := kS.lt
        have zZ := kZ.lt
        clear kD kS kZ
        have FW := find_walk _ x.now n w2 (H1.out.kept (KeptY.below HBW.out)) hF
        go_wp2_with (fail)
        refine Calls.mono FW ?_
        rintro y w3 ⟨r, rfl, rfl, hr⟩
        clear FW
        rcases hr with ⟨rfl, hl⟩ | ⟨q, f, rfl, _, _, hl⟩
        · skip
          have HC := Lib.hid (show tryN x n t b false true = 8 from by unfold tryN; rw [if_neg (by rw [hnn]; decide), if_neg (fun h => by exact absurd h.1.2 (by decide)), if_neg (by decide), if_pos (by rw [hl]; rfl)])
          have HXX := Lib.hid (show TryX x n t b sv false true = x from if_neg (by rw [HC.out]; decide))
          go_wp2_with (fail)
          have kZ0 := HKZ.out.below HBW.out
          have kZ1 := kZ0.put 0 (.slice A1 x.now.length k1) rfl
          have kZ2 := kZ1.put 1 (.slice A2 x.sure.length k2) rfl
          have kZ3 := kZ2.put 2 (.slice A3 x.T.length k3) rfl
          have KK := ((KeptD.of (KeptY.below HBW.out)).trans (KeptD.set kZ0 0 (.slice A1 x.now.length k1))).trans ((KeptD.set kZ1 1 (.slice A2 x.sure.length k2)).trans (KeptD.set kZ2 2 (.slice A3 x.T.length k3)))
          rw [HC.out, HXX.out]
          refine bodyPost_end (results_ct_row rfl _ _ (p + 2) _ _ _ _ rfl kZ3) rfl ⟨_, rfl, ?_, ?_⟩
          · exact ⟨_, _, _, rfl, H1.out.keptD KK, H2.out.keptD KK, H3.out.keptD KK⟩
          · rw [HP.out]
            exact below_set3 (HBZ.out.trans (HBW.out.mono (by have := HKD.out.lt; omega))) (by omega)
        · have q0 : (0 : Int) ≤ q := by omega
          have HLK := Lib.hid (show (lookF x.now n).isSome = true by rw [hl]; rfl)
          by_cases hT2 : 4096 ≤ x.T.length
          · have hT2' : (4096 : Int) ≤ (x.T.length : Int) := by omega
            have HC := Lib.hid (show tryN x n t b false true = 10 from by unfold tryN; rw [if_neg (by rw [hnn]; decide), if_neg (fun h => by exact absurd h.1.2 (by decide)), if_neg (by decide), if_neg (fun h => by rw [hl] at h; cases h), if_pos hT2])
            have HXX := Lib.hid (show TryX x n t b sv false true = x from if_neg (by rw [HC.out]; decide))
            go_wp2_with (fail)
            have kZ0 := HKZ.out.below HBW.out
            have kZ1 := kZ0.put 0 (.slice A1 x.now.length k1) rfl
            have kZ2 := kZ1.put 1 (.slice A2 x.sure.length k2) rfl
            have kZ3 := kZ2.put 2 (.slice A3 x.T.length k3) rfl
            have KK := ((KeptD.of (KeptY.below HBW.out)).trans (KeptD.set kZ0 0 (.slice A1 x.now.length k1))).trans ((KeptD.set kZ1 1 (.slice A2 x.sure.length k2)).trans (KeptD.set kZ2 2 (.slice A3 x.T.length k3)))
            rw [HC.out, HXX.out]
            refine bodyPost_end (results_ct_row rfl _ _ (p + 2) _ _ _ _ rfl kZ3) rfl ⟨_, rfl, ?_, ?_⟩
            · exact ⟨_, _, _, rfl, H1.out.keptD KK, H2.out.keptD KK, H3.out.keptD KK⟩
            · rw [HP.out]
              exact below_set3 (HBZ.out.trans (HBW.out.mono (by have := HKD.out.lt; omega))) (by omega)
          · have hT2' : ¬ (4096 : Int) ≤ (x.T.length : Int) := by omega
            have HC := Lib.hid (show tryN x n t b false true = 0 from by unfold tryN; rw [if_neg (by rw [hnn]; decide), if_neg (fun h => by exact absurd h.1.2 (by decide)), if_neg (by decide), if_neg (fun h => by rw [hl] at h; cases h), if_neg hT2])
            have HXX := Lib.hid (show TryX x n t b sv false true = TryS x n t b sv false true from if_pos HC.out)
            have HS0 := Lib.hid (show S13 p (.slice A1 x.now.length k1) (.slice A2 x.sure.length k2) (.slice A3 x.T.length k3) (.int .i64 2) (.string ⟨n.toArray⟩) (.string ⟨t.toArray⟩) (.string ⟨b.toArray⟩) w3 from ⟨HKD.out.below HBW.out, HKS.out.below HBW.out⟩)
            have HW1 := Lib.hid (H1.out.kept (KeptY.below HBW.out))
            have HW2 := Lib.hid (H2.out.kept (KeptY.below HBW.out))
            have HW3 := Lib.hid (H3.out.kept (KeptY.below HBW.out))
            have HWZ := Lib.hid (HKZ.out.below HBW.out)
            have HWB := Lib.hid (show Below w.heap.size w w3 by rw [HP.out]; exact HBZ.out.trans (HBW.out.mono (by have := HKD.out.lt; omega)))
            have HPW := Lib.hid (show p + 2 < w3.heap.size from HWZ.out.lt)
            have DO := Lib.hid (fun (w' : World) (hb : Below w3.heap.size w3 w') => docdo_walk (.slice A1 x.now.length k1) x.now n t b sv false true w' (HW1.out.kept (KeptY.below hb)) hF (fun _ h => by cases h))
            skip
            go_upto_region 13 with (fail)
            clear HKD HKS HKZ HBW H1 H2 H3 HBZ d0 d1 d2 s0 s1 s2 s3 y0 y1 y2 f0 f1 f2 zD zS zZ
            refine wp_region_noPanic ?_
            refine wp_region_held_drew (S := (fun w' => S13 p (.slice A1 x.now.length k1) (.slice A2 x.sure.length k2) (.slice A3 x.T.length k3) (.int .i64 2) (.string ⟨n.toArray⟩) (.string ⟨t.toArray⟩) (.string ⟨b.toArray⟩) w')) (by kernel_rfl) ?_ (fun hHeld => ?_)
            · exact HS0.out
            have BD := Lib.hid (show Below w3.heap.size w3 w3.drew from below_drewN (Below.refl _ _) 1)
            generalize w3.drew = wd at *
            refine reg_take (i := 0) (oi := _) (v := ?_) rfl (by kernel_rfl) (by kernel_rfl) (by kernel_rfl) (fun _ _ _ h => h) (by rfl) ?_ (by assumption) ?_
            rotate_left
            · intro w hSw; (try dsimp only at hSw); have d0 : w.cell? ⟨p, 0, none⟩ = some (.slice A1 x.now.length k1) := (by rw [hSw.1.cell]; rfl); have d1 : w.cell? ⟨p, 1, none⟩ = some (.slice A2 x.sure.length k2) := (by rw [hSw.1.cell]; rfl); have d2 : w.cell? ⟨p, 2, none⟩ = some (.slice A3 x.T.length k3) := (by rw [hSw.1.cell]; rfl); have s0 : w.cell? ⟨p + 1, 0, none⟩ = some (.int .i64 2) := (by rw [hSw.2.cell]; rfl); have s1 : w.cell? ⟨p + 1, 1, none⟩ = some (.string ⟨n.toArray⟩) := (by rw [hSw.2.cell]; rfl); have s2 : w.cell? ⟨p + 1, 2, none⟩ = some (.string ⟨t.toArray⟩) := (by rw [hSw.2.cell]; rfl); have s3 : w.cell? ⟨p + 1, 3, none⟩ = some (.string ⟨b.toArray⟩) := (by rw [hSw.2.cell]; rfl); have zD := hSw.1.lt; have zS := hSw.2.lt; go_simp; try with_reducible rfl
            (try simp only [Act.put, List.setIfInBounds_toArray, List.set_cons_zero, List.set_cons_succ])
            refine reg_take (i := 1) (oi := _) (v := ?_) rfl (by kernel_rfl) (by kernel_rfl) (by kernel_rfl) (fun _ _ _ h => h) (by rfl) ?_ (by assumption) ?_
            rotate_left
            · intro w hSw; (try dsimp only at hSw); have d0 : w.cell? ⟨p, 0, none⟩ = some (.slice A1 x.now.length k1) := (by rw [hSw.1.cell]; rfl); have d1 : w.cell? ⟨p, 1, none⟩ = some (.slice A2 x.sure.length k2) := (by rw [hSw.1.cell]; rfl); have d2 : w.cell? ⟨p, 2, none⟩ = some (.slice A3 x.T.length k3) := (by rw [hSw.1.cell]; rfl); have s0 : w.cell? ⟨p + 1, 0, none⟩ = some (.int .i64 2) := (by rw [hSw.2.cell]; rfl); have s1 : w.cell? ⟨p + 1, 1, none⟩ = some (.string ⟨n.toArray⟩) := (by rw [hSw.2.cell]; rfl); have s2 : w.cell? ⟨p + 1, 2, none⟩ = some (.string ⟨t.toArray⟩) := (by rw [hSw.2.cell]; rfl); have s3 : w.cell? ⟨p + 1, 3, none⟩ = some (.string ⟨b.toArray⟩) := (by rw [hSw.2.cell]; rfl); have zD := hSw.1.lt; have zS := hSw.2.lt; go_simp; try with_reducible rfl
            (try simp only [Act.put, List.setIfInBounds_toArray, List.set_cons_zero, List.set_cons_succ])
            refine reg_take (i := 2) (oi := _) (v := ?_) rfl (by kernel_rfl) (by kernel_rfl) (by kernel_rfl) (fun _ _ _ h => h) (by rfl) ?_ (by assumption) ?_
            rotate_left
            · intro w hSw; (try dsimp only at hSw); have d0 : w.cell? ⟨p, 0, none⟩ = some (.slice A1 x.now.length k1) := (by rw [hSw.1.cell]; rfl); have d1 : w.cell? ⟨p, 1, none⟩ = some (.slice A2 x.sure.length k2) := (by rw [hSw.1.cell]; rfl); have d2 : w.cell? ⟨p, 2, none⟩ = some (.slice A3 x.T.length k3) := (by rw [hSw.1.cell]; rfl); have s0 : w.cell? ⟨p + 1, 0, none⟩ = some (.int .i64 2) := (by rw [hSw.2.cell]; rfl); have s1 : w.cell? ⟨p + 1, 1, none⟩ = some (.string ⟨n.toArray⟩) := (by rw [hSw.2.cell]; rfl); have s2 : w.cell? ⟨p + 1, 2, none⟩ = some (.string ⟨t.toArray⟩) := (by rw [hSw.2.cell]; rfl); have s3 : w.cell? ⟨p + 1, 3, none⟩ = some (.string ⟨b.toArray⟩) := (by rw [hSw.2.cell]; rfl); have zD := hSw.1.lt; have zS := hSw.2.lt; go_simp; try with_reducible rfl
            (try simp only [Act.put, List.setIfInBounds_toArray, List.set_cons_zero, List.set_cons_succ])
            refine reg_take (i := 4) (oi := _) (v := ?_) rfl (by kernel_rfl) (by kernel_rfl) (by kernel_rfl) (fun _ _ _ h => h) (by rfl) ?_ (by assumption) ?_
            rotate_left
            · intro w hSw; (try dsimp only at hSw); have d0 : w.cell? ⟨p, 0, none⟩ = some (.slice A1 x.now.length k1) := (by rw [hSw.1.cell]; rfl); have d1 : w.cell? ⟨p, 1, none⟩ = some (.slice A2 x.sure.length k2) := (by rw [hSw.1.cell]; rfl); have d2 : w.cell? ⟨p, 2, none⟩ = some (.slice A3 x.T.length k3) := (by rw [hSw.1.cell]; rfl); have s0 : w.cell? ⟨p + 1, 0, none⟩ = some (.int .i64 2) := (by rw [hSw.2.cell]; rfl); have s1 : w.cell? ⟨p + 1, 1, none⟩ = some (.string ⟨n.toArray⟩) := (by rw [hSw.2.cell]; rfl); have s2 : w.cell? ⟨p + 1, 2, none⟩ = some (.string ⟨t.toArray⟩) := (by rw [hSw.2.cell]; rfl); have s3 : w.cell? ⟨p + 1, 3, none⟩ = some (.string ⟨b.toArray⟩) := (by rw [hSw.2.cell]; rfl); have zD := hSw.1.lt; have zS := hSw.2.lt; go_simp; try with_reducible rfl
            (try simp only [Act.put, List.setIfInBounds_toArray, List.set_cons_zero, List.set_cons_succ])
            refine reg_take (i := 5) (oi := _) (v := ?_) rfl (by kernel_rfl) (by kernel_rfl) (by kernel_rfl) (fun _ _ _ h => h) (by rfl) ?_ (by assumption) ?_
            rotate_left
            · intro w hSw; (try dsimp only at hSw); have d0 : w.cell? ⟨p, 0, none⟩ = some (.slice A1 x.now.length k1) := (by rw [hSw.1.cell]; rfl); have d1 : w.cell? ⟨p, 1, none⟩ = some (.slice A2 x.sure.length k2) := (by rw [hSw.1.cell]; rfl); have d2 : w.cell? ⟨p, 2, none⟩ = some (.slice A3 x.T.length k3) := (by rw [hSw.1.cell]; rfl); have s0 : w.cell? ⟨p + 1, 0, none⟩ = some (.int .i64 2) := (by rw [hSw.2.cell]; rfl); have s1 : w.cell? ⟨p + 1, 1, none⟩ = some (.string ⟨n.toArray⟩) := (by rw [hSw.2.cell]; rfl); have s2 : w.cell? ⟨p + 1, 2, none⟩ = some (.string ⟨t.toArray⟩) := (by rw [hSw.2.cell]; rfl); have s3 : w.cell? ⟨p + 1, 3, none⟩ = some (.string ⟨b.toArray⟩) := (by rw [hSw.2.cell]; rfl); have zD := hSw.1.lt; have zS := hSw.2.lt; go_simp; try with_reducible rfl
            (try simp only [Act.put, List.setIfInBounds_toArray, List.set_cons_zero, List.set_cons_succ])
            refine reg_take (i := 6) (oi := _) (v := ?_) rfl (by kernel_rfl) (by kernel_rfl) (by kernel_rfl) (fun _ _ _ h => h) (by rfl) ?_ (by assumption) ?_
            rotate_left
            · intro w hSw; (try dsimp only at hSw); have d0 : w.cell? ⟨p, 0, none⟩ = some (.slice A1 x.now.length k1) := (by rw [hSw.1.cell]; rfl); have d1 : w.cell? ⟨p, 1, none⟩ = some (.slice A2 x.sure.length k2) := (by rw [hSw.1.cell]; rfl); have d2 : w.cell? ⟨p, 2, none⟩ = some (.slice A3 x.T.length k3) := (by rw [hSw.1.cell]; rfl); have s0 : w.cell? ⟨p + 1, 0, none⟩ = some (.int .i64 2) := (by rw [hSw.2.cell]; rfl); have s1 : w.cell? ⟨p + 1, 1, none⟩ = some (.string ⟨n.toArray⟩) := (by rw [hSw.2.cell]; rfl); have s2 : w.cell? ⟨p + 1, 2, none⟩ = some (.string ⟨t.toArray⟩) := (by rw [hSw.2.cell]; rfl); have s3 : w.cell? ⟨p + 1, 3, none⟩ = some (.string ⟨b.toArray⟩) := (by rw [hSw.2.cell]; rfl); have zD := hSw.1.lt; have zS := hSw.2.lt; go_simp; try with_reducible rfl
            (try simp only [Act.put, List.setIfInBounds_toArray, List.set_cons_zero, List.set_cons_succ])
            refine reg_take (i := 7) (oi := _) (v := ?_) rfl (by kernel_rfl) (by kernel_rfl) (by kernel_rfl) (fun _ _ _ h => h) (by rfl) ?_ (by assumption) ?_
            rotate_left
            · intro w hSw; (try dsimp only at hSw); have d0 : w.cell? ⟨p, 0, none⟩ = some (.slice A1 x.now.length k1) := (by rw [hSw.1.cell]; rfl); have d1 : w.cell? ⟨p, 1, none⟩ = some (.slice A2 x.sure.length k2) := (by rw [hSw.1.cell]; rfl); have d2 : w.cell? ⟨p, 2, none⟩ = some (.slice A3 x.T.length k3) := (by rw [hSw.1.cell]; rfl); have s0 : w.cell? ⟨p + 1, 0, none⟩ = some (.int .i64 2) := (by rw [hSw.2.cell]; rfl); have s1 : w.cell? ⟨p + 1, 1, none⟩ = some (.string ⟨n.toArray⟩) := (by rw [hSw.2.cell]; rfl); have s2 : w.cell? ⟨p + 1, 2, none⟩ = some (.string ⟨t.toArray⟩) := (by rw [hSw.2.cell]; rfl); have s3 : w.cell? ⟨p + 1, 3, none⟩ = some (.string ⟨b.toArray⟩) := (by rw [hSw.2.cell]; rfl); have zD := hSw.1.lt; have zS := hSw.2.lt; go_simp; try with_reducible rfl
            (try simp only [Act.put, List.setIfInBounds_toArray, List.set_cons_zero, List.set_cons_succ])
            refine reg_take (i := 8) (oi := _) (v := ?_) rfl (by kernel_rfl) (by kernel_rfl) (by kernel_rfl) (fun _ _ _ h => h) (by rfl) ?_ (by assumption) ?_
            rotate_left
            · intro w hSw; (try dsimp only at hSw); have d0 : w.cell? ⟨p, 0, none⟩ = some (.slice A1 x.now.length k1) := (by rw [hSw.1.cell]; rfl); have d1 : w.cell? ⟨p, 1, none⟩ = some (.slice A2 x.sure.length k2) := (by rw [hSw.1.cell]; rfl); have d2 : w.cell? ⟨p, 2, none⟩ = some (.slice A3 x.T.length k3) := (by rw [hSw.1.cell]; rfl); have s0 : w.cell? ⟨p + 1, 0, none⟩ = some (.int .i64 2) := (by rw [hSw.2.cell]; rfl); have s1 : w.cell? ⟨p + 1, 1, none⟩ = some (.string ⟨n.toArray⟩) := (by rw [hSw.2.cell]; rfl); have s2 : w.cell? ⟨p + 1, 2, none⟩ = some (.string ⟨t.toArray⟩) := (by rw [hSw.2.cell]; rfl); have s3 : w.cell? ⟨p + 1, 3, none⟩ = some (.string ⟨b.toArray⟩) := (by rw [hSw.2.cell]; rfl); have zD := hSw.1.lt; have zS := hSw.2.lt; go_simp; try with_reducible rfl
            (try simp only [Act.put, List.setIfInBounds_toArray, List.set_cons_zero, List.set_cons_succ])
            refine reg_take (i := 10) (oi := _) (v := ?_) rfl (by kernel_rfl) (by kernel_rfl) (by kernel_rfl) (fun _ _ _ h => h) (by rfl) ?_ (by assumption) ?_
            rotate_left
            · intro w hSw; (try dsimp only at hSw); have d0 : w.cell? ⟨p, 0, none⟩ = some (.slice A1 x.now.length k1) := (by rw [hSw.1.cell]; rfl); have d1 : w.cell? ⟨p, 1, none⟩ = some (.slice A2 x.sure.length k2) := (by rw [hSw.1.cell]; rfl); have d2 : w.cell? ⟨p, 2, none⟩ = some (.slice A3 x.T.length k3) := (by rw [hSw.1.cell]; rfl); have s0 : w.cell? ⟨p + 1, 0, none⟩ = some (.int .i64 2) := (by rw [hSw.2.cell]; rfl); have s1 : w.cell? ⟨p + 1, 1, none⟩ = some (.string ⟨n.toArray⟩) := (by rw [hSw.2.cell]; rfl); have s2 : w.cell? ⟨p + 1, 2, none⟩ = some (.string ⟨t.toArray⟩) := (by rw [hSw.2.cell]; rfl); have s3 : w.cell? ⟨p + 1, 3, none⟩ = some (.string ⟨b.toArray⟩) := (by rw [hSw.2.cell]; rfl); have zD := hSw.1.lt; have zS := hSw.2.lt; go_simp; try with_reducible rfl
            (try simp only [Act.put, List.setIfInBounds_toArray, List.set_cons_zero, List.set_cons_succ])
            refine wpAnyH_ready (rs := [3, 11]) (by kernel_rfl) (by simp) ?_
            refine reg_each (o := _) rfl (fun K hK => ?_) ?_
            · skip
              go_simp
              refine (DO.out _ BD.out).mono ?_
              rintro q wx0 ⟨v3, rfl, hr3, hb3⟩
              have B0 := Lib.hid (below_trans BD.out hb3)
              have HR3 := Lib.hid hr3
              have HB3 := Lib.hid hb3
              clear hr3 hb3
              go_wp2_with (fail)
              refine hK.out _ _ ?_ (fun hHeld2 => ?_)
              · exact HS0.out.of B0.out
              clear hK K hHeld
              have hHeld := hHeld2
              clear hHeld2
              (try simp only [Act.put, List.setIfInBounds_toArray, List.set_cons_zero, List.set_cons_succ])
              obtain ⟨A4, l4, k4, rfl⟩ : ∃ A l c, v3 = .slice A l c := by obtain ⟨A, c, e⟩ := RdF.owned HR3.out; exact ⟨_, _, _, e⟩
              have HF3 := Lib.hid (RdF.of_owns HR3.out)
              clear HR3 HB3 BD
              refine wpAnyH_ready (rs := [9, 11]) (by kernel_rfl) (by simp) ?_
              refine reg_each (o := _) rfl (fun K hK => ?_) ?_
              · skip
                refine step_append_D rfl (.tmp 62) (.tmp 64) rfl w3.heap.size (.slice none 0 0) _ [] x.T rfl rfl (World.ownsRow_nil _ _ _ _) (HW3.out.kept (KeptY.below B0.out)) (by simp; omega) B0.out.size ?_
                intro v9 wx1 own9 gr9 at9
                have hb9 := grown_none gr9 rfl
                have B1 := Lib.hid (below_trans B0.out hb9)
                refine hK.out _ _ ?_ (fun hHeld2 => ?_)
                · exact HS0.out.of B1.out
                clear hK K hHeld
                have hHeld := hHeld2
                clear hHeld2
                (try simp only [Act.put, List.setIfInBounds_toArray, List.set_cons_zero, List.set_cons_succ])
                have OWN9 := Lib.hid (show wx1.ownsRow w3.heap.size 79 4 v9 x.T.length (cellsD x.T) from own9)
                have HF3 := Lib.hid (HF3.out.kept (KeptY.below hb9))
                clear own9 gr9 at9 hb9 B0
                refine wpAnyH_ready (rs := [11]) (by kernel_rfl) (by simp) ?_
                refine reg_each (o := _) rfl (fun K hK => ?_) ?_
                · skip
                  go_simp
                  have B2 := Lib.hid (B1.out.alloc B1.out.size (.cells #[.int .i64 2, .string ⟨n.toArray⟩, .string ⟨t.toArray⟩, .string ⟨b.toArray⟩] 79))
                  refine hK.out _ _ ?_ (fun hHeld2 => ?_)
                  · exact HS0.out.of B2.out
                  clear hK K hHeld
                  have hHeld := hHeld2
                  clear hHeld2
                  (try simp only [Act.put, List.setIfInBounds_toArray, List.set_cons_zero, List.set_cons_succ])
                  have P11 := Lib.hid (show RdD (wx1.alloc (.cells #[.int .i64 2, .string ⟨n.toArray⟩, .string ⟨t.toArray⟩, .string ⟨b.toArray⟩] 79)) (.slice (some ⟨wx1.heap.size, 0, none⟩) 1 1) [(⟨⟨n.toArray⟩, ⟨t.toArray⟩, sv, b, false, true⟩ : Stp)] from RdD.one wx1 (⟨⟨n.toArray⟩, ⟨t.toArray⟩, sv, b, false, true⟩ : Stp))
                  have AL := KeptY.below ((Below.refl wx1.heap.size wx1).alloc (Nat.le_refl _) (.cells #[.int .i64 2, .string ⟨n.toArray⟩, .string ⟨t.toArray⟩, .string ⟨b.toArray⟩] 79))
                  have HF3 := Lib.hid (HF3.out.kept AL)
                  have N11 := Lib.hid (show v9.ownBlock ≠ some wx1.heap.size from fun e => Nat.lt_irrefl _ (OWN9.out.lt _ e).2)
                  have OWN9 := Lib.hid (OWN9.out.alloc (.cells #[.int .i64 2, .string ⟨n.toArray⟩, .string ⟨t.toArray⟩, .string ⟨b.toArray⟩] 79))
                  have Z11 := Lib.hid (show wx1.heap.size < (wx1.alloc (.cells #[.int .i64 2, .string ⟨n.toArray⟩, .string ⟨t.toArray⟩, .string ⟨b.toArray⟩] 79)).heap.size by simp)
                  clear AL B1
                  generalize wx1.alloc (Obj.cells #[.int .i64 2, .string ⟨n.toArray⟩, .string ⟨t.toArray⟩, .string ⟨b.toArray⟩] 79) = wx2 at *
                  generalize wx1.heap.size = p11 at *
                  refine wpAnyH_ready (rs := [12]) (by kernel_rfl) (by simp) ?_
                  refine reg_each (o := _) rfl (fun K hK => ?_) ?_
                  · skip
                    refine step_append_D rfl (.tmp 65) (.tmp 67) rfl w3.heap.size v9 _ x.T [(⟨⟨n.toArray⟩, ⟨t.toArray⟩, sv, b, false, true⟩ : Stp)] rfl rfl OWN9.out P11.out (by simp; omega) B2.out.size ?_
                    intro v12 wx3 own12 gr12 at12
                    have B3 := Lib.hid (below_grown' B2.out gr12 (fun k e => (OWN9.out.lt k e).1) B2.out.size)
                    refine hK.out _ _ ?_ (fun hHeld2 => ?_)
                    · exact HS0.out.of B3.out
                    clear hK K hHeld
                    have hHeld := hHeld2
                    clear hHeld2
                    (try simp only [Act.put, List.setIfInBounds_toArray, List.set_cons_zero, List.set_cons_succ])
                    have HF3 := Lib.hid (HF3.out.app OWN9.out gr12)
                    have OWN12 := Lib.hid own12
                    obtain ⟨A5, l5, k5, rfl⟩ : ∃ A l c, v12 = .slice A l c := by obtain ⟨A, c, e⟩ := RdD.owned own12; exact ⟨_, _, _, e⟩
                    clear own12 gr12 at12 OWN9 P11 B2
                    refine reg_take (i := 13) (oi := _) (v := ?_) rfl (by kernel_rfl) (by kernel_rfl) (by kernel_rfl) (fun _ _ _ h => h) (by rfl) ?_ (by assumption) ?_
                    rotate_left
                    · intro w hSw; (try dsimp only at hSw); have d0 : w.cell? ⟨p, 0, none⟩ = some (.slice A1 x.now.length k1) := (by rw [hSw.1.cell]; rfl); have d1 : w.cell? ⟨p, 1, none⟩ = some (.slice A2 x.sure.length k2) := (by rw [hSw.1.cell]; rfl); have d2 : w.cell? ⟨p, 2, none⟩ = some (.slice A3 x.T.length k3) := (by rw [hSw.1.cell]; rfl); have s0 : w.cell? ⟨p + 1, 0, none⟩ = some (.int .i64 2) := (by rw [hSw.2.cell]; rfl); have s1 : w.cell? ⟨p + 1, 1, none⟩ = some (.string ⟨n.toArray⟩) := (by rw [hSw.2.cell]; rfl); have s2 : w.cell? ⟨p + 1, 2, none⟩ = some (.string ⟨t.toArray⟩) := (by rw [hSw.2.cell]; rfl); have s3 : w.cell? ⟨p + 1, 3, none⟩ = some (.string ⟨b.toArray⟩) := (by rw [hSw.2.cell]; rfl); have zD := hSw.1.lt; have zS := hSw.2.lt; go_simp; try with_reducible rfl
                    (try simp only [Act.put, List.setIfInBounds_toArray, List.set_cons_zero, List.set_cons_succ])
                    refine wpAnyH_ready (rs := [14]) (by kernel_rfl) (by simp) ?_
                    refine reg_each (o := _) rfl (fun K hK => ?_) ?_
                    · skip
                      have kZ0 := HWZ.out.below B3.out
                      have y0 : wx3.cell? ⟨p + 2, 0, none⟩ = some (.slice none 0 0) := by rw [kZ0.cell]; rfl
                      have y1 : wx3.cell? ⟨p + 2, 1, none⟩ = some (.slice none 0 0) := by rw [kZ0.cell]; rfl
                      have y2 : wx3.cell? ⟨p + 2, 2, none⟩ = some (.slice none 0 0) := by rw [kZ0.cell]; rfl
                      have f0 := kZ0.frozen 0
                      have f1 := kZ0.frozen 1
                      have f2 := kZ0.frozen 2
                      have zZ := kZ0.lt
                      have hk4 : k4 = k4 := rfl
                      go_simp
                      refine hK.out _ _ ?_ (fun hHeld2 => ?_)
                      · exact ((hHeld.set 0 _).set 1 _).set 2 _
                      clear hK K hHeld
                      have hHeld := hHeld2
                      clear hHeld2
                      (try simp only [Act.put, List.setIfInBounds_toArray, List.set_cons_zero, List.set_cons_succ])
                      refine reg_take (i := 15) (oi := _) (v := ?_) rfl (by kernel_rfl) (by kernel_rfl) (by kernel_rfl) (fun _ _ _ h => h) (by rfl) ?_ (by assumption) ?_
                      rotate_left
                      · intro w hSw; (try dsimp only at hSw); have d0 : w.cell? ⟨p, 0, none⟩ = some (.slice A1 x.now.length k1) := (by rw [hSw.1.cell]; rfl); have d1 : w.cell? ⟨p, 1, none⟩ = some (.slice A2 x.sure.length k2) := (by rw [hSw.1.cell]; rfl); have d2 : w.cell? ⟨p, 2, none⟩ = some (.slice A3 x.T.length k3) := (by rw [hSw.1.cell]; rfl); have s0 : w.cell? ⟨p + 1, 0, none⟩ = some (.int .i64 2) := (by rw [hSw.2.cell]; rfl); have s1 : w.cell? ⟨p + 1, 1, none⟩ = some (.string ⟨n.toArray⟩) := (by rw [hSw.2.cell]; rfl); have s2 : w.cell? ⟨p + 1, 2, none⟩ = some (.string ⟨t.toArray⟩) := (by rw [hSw.2.cell]; rfl); have s3 : w.cell? ⟨p + 1, 3, none⟩ = some (.string ⟨b.toArray⟩) := (by rw [hSw.2.cell]; rfl); have zD := hSw.1.lt; have zS := hSw.2.lt; go_simp; try with_reducible rfl
                      (try simp only [Act.put, List.setIfInBounds_toArray, List.set_cons_zero, List.set_cons_succ])
                      refine wpAnyH_done (by kernel_rfl) ?_ _
                      refine NoPanic.normal ?_
                      clear hHeld y0 y1 y2 f0 f1 f2 zZ
                      go_wp2_with (fail)
                      have kZ1 := kZ0.put 0 (.slice A4 l4 k4) rfl
                      have kZ2 := kZ1.put 1 (.slice A2 x.sure.length k2) rfl
                      have kZ3 := kZ2.put 2 (.slice A5 l5 k5) rfl
                      have KK := (KeptD.set kZ0 0 (.slice A4 l4 k4)).trans ((KeptD.set kZ1 1 (.slice A2 x.sure.length k2)).trans (KeptD.set kZ2 2 (.slice A5 l5 k5)))
                      rw [HC.out, HXX.out]
                      refine bodyPost_end (results_ct_row rfl _ _ (p + 2) _ _ _ _ rfl kZ3) rfl ⟨_, rfl, ⟨_, _, _, rfl, HF3.out.keptD KK, (HW2.out.kept (KeptY.below B3.out)).keptD KK, (RdD.of_owns OWN12.out).keptD KK⟩, ?_⟩
                      exact below_set3 (HWB.out.trans (B3.out.mono HWB.out.size)) (by rw [HP.out]; omega)
                    exact AllReadyH.nil
                  exact AllReadyH.nil
                exact AllReadyH.nil
              refine reg_each (o := _) rfl (fun K hK => ?_) ?_
              · skip
                go_simp
                have B1 := Lib.hid (B0.out.alloc B0.out.size (.cells #[.int .i64 2, .string ⟨n.toArray⟩, .string ⟨t.toArray⟩, .string ⟨b.toArray⟩] 79))
                refine hK.out _ _ ?_ (fun hHeld2 => ?_)
                · exact HS0.out.of B1.out
                clear hK K hHeld
                have hHeld := hHeld2
                clear hHeld2
                (try simp only [Act.put, List.setIfInBounds_toArray, List.set_cons_zero, List.set_cons_succ])
                have P11 := Lib.hid (show RdD (wx0.alloc (.cells #[.int .i64 2, .string ⟨n.toArray⟩, .string ⟨t.toArray⟩, .string ⟨b.toArray⟩] 79)) (.slice (some ⟨wx0.heap.size, 0, none⟩) 1 1) [(⟨⟨n.toArray⟩, ⟨t.toArray⟩, sv, b, false, true⟩ : Stp)] from RdD.one wx0 (⟨⟨n.toArray⟩, ⟨t.toArray⟩, sv, b, false, true⟩ : Stp))
                have AL := KeptY.below ((Below.refl wx0.heap.size wx0).alloc (Nat.le_refl _) (.cells #[.int .i64 2, .string ⟨n.toArray⟩, .string ⟨t.toArray⟩, .string ⟨b.toArray⟩] 79))
                have HF3 := Lib.hid (HF3.out.kept AL)
                have Z11 := Lib.hid (show wx0.heap.size < (wx0.alloc (.cells #[.int .i64 2, .string ⟨n.toArray⟩, .string ⟨t.toArray⟩, .string ⟨b.toArray⟩] 79)).heap.size by simp)
                clear AL B0
                generalize wx0.alloc (Obj.cells #[.int .i64 2, .string ⟨n.toArray⟩, .string ⟨t.toArray⟩, .string ⟨b.toArray⟩] 79) = wx1 at *
                generalize wx0.heap.size = p11 at *
                refine wpAnyH_ready (rs := [9]) (by kernel_rfl) (by simp) ?_
                refine reg_each (o := _) rfl (fun K hK => ?_) ?_
                · skip
                  refine step_append_D rfl (.tmp 62) (.tmp 64) rfl w3.heap.size (.slice none 0 0) _ [] x.T rfl rfl (World.ownsRow_nil _ _ _ _) (HW3.out.kept (KeptY.below B1.out)) (by simp; omega) B1.out.size ?_
                  intro v9 wx2 own9 gr9 at9
                  have hb9 := grown_none gr9 rfl
                  have B2 := Lib.hid (below_trans B1.out hb9)
                  refine hK.out _ _ ?_ (fun hHeld2 => ?_)
                  · exact HS0.out.of B2.out
                  clear hK K hHeld
                  have hHeld := hHeld2
                  clear hHeld2
                  (try simp only [Act.put, List.setIfInBounds_toArray, List.set_cons_zero, List.set_cons_succ])
                  have OWN9 := Lib.hid (show wx2.ownsRow w3.heap.size 79 4 v9 x.T.length (cellsD x.T) from own9)
                  have HF3 := Lib.hid (HF3.out.kept (KeptY.below hb9))
                  have P11 := Lib.hid (P11.out.kept (KeptY.below hb9))
                  have N11 := Lib.hid (show v9.ownBlock ≠ some p11 from fun e => by
                    rcases at9 with h | h
                    · rw [h] at e; cases e
                    · rw [h] at e; have := Option.some.inj e; have := Z11.out; omega)
                  clear own9 gr9 at9 hb9 B1
                  refine wpAnyH_ready (rs := [12]) (by kernel_rfl) (by simp) ?_
                  refine reg_each (o := _) rfl (fun K hK => ?_) ?_
                  · skip
                    refine step_append_D rfl (.tmp 65) (.tmp 67) rfl w3.heap.size v9 _ x.T [(⟨⟨n.toArray⟩, ⟨t.toArray⟩, sv, b, false, true⟩ : Stp)] rfl rfl OWN9.out P11.out (by simp; omega) B2.out.size ?_
                    intro v12 wx3 own12 gr12 at12
                    have B3 := Lib.hid (below_grown' B2.out gr12 (fun k e => (OWN9.out.lt k e).1) B2.out.size)
                    refine hK.out _ _ ?_ (fun hHeld2 => ?_)
                    · exact HS0.out.of B3.out
                    clear hK K hHeld
                    have hHeld := hHeld2
                    clear hHeld2
                    (try simp only [Act.put, List.setIfInBounds_toArray, List.set_cons_zero, List.set_cons_succ])
                    have HF3 := Lib.hid (HF3.out.app OWN9.out gr12)
                    have OWN12 := Lib.hid own12
                    obtain ⟨A5, l5, k5, rfl⟩ : ∃ A l c, v12 = .slice A l c := by obtain ⟨A, c, e⟩ := RdD.owned own12; exact ⟨_, _, _, e⟩
                    clear own12 gr12 at12 OWN9 P11 B2
                    refine reg_take (i := 13) (oi := _) (v := ?_) rfl (by kernel_rfl) (by kernel_rfl) (by kernel_rfl) (fun _ _ _ h => h) (by rfl) ?_ (by assumption) ?_
                    rotate_left
                    · intro w hSw; (try dsimp only at hSw); have d0 : w.cell? ⟨p, 0, none⟩ = some (.slice A1 x.now.length k1) := (by rw [hSw.1.cell]; rfl); have d1 : w.cell? ⟨p, 1, none⟩ = some (.slice A2 x.sure.length k2) := (by rw [hSw.1.cell]; rfl); have d2 : w.cell? ⟨p, 2, none⟩ = some (.slice A3 x.T.length k3) := (by rw [hSw.1.cell]; rfl); have s0 : w.cell? ⟨p + 1, 0, none⟩ = some (.int .i64 2) := (by rw [hSw.2.cell]; rfl); have s1 : w.cell? ⟨p + 1, 1, none⟩ = some (.string ⟨n.toArray⟩) := (by rw [hSw.2.cell]; rfl); have s2 : w.cell? ⟨p + 1, 2, none⟩ = some (.string ⟨t.toArray⟩) := (by rw [hSw.2.cell]; rfl); have s3 : w.cell? ⟨p + 1, 3, none⟩ = some (.string ⟨b.toArray⟩) := (by rw [hSw.2.cell]; rfl); have zD := hSw.1.lt; have zS := hSw.2.lt; go_simp; try with_reducible rfl
                    (try simp only [Act.put, List.setIfInBounds_toArray, List.set_cons_zero, List.set_cons_succ])
                    refine wpAnyH_ready (rs := [14]) (by kernel_rfl) (by simp) ?_
                    refine reg_each (o := _) rfl (fun K hK => ?_) ?_
                    · skip
                      have kZ0 := HWZ.out.below B3.out
                      have y0 : wx3.cell? ⟨p + 2, 0, none⟩ = some (.slice none 0 0) := by rw [kZ0.cell]; rfl
                      have y1 : wx3.cell? ⟨p + 2, 1, none⟩ = some (.slice none 0 0) := by rw [kZ0.cell]; rfl
                      have y2 : wx3.cell? ⟨p + 2, 2, none⟩ = some (.slice none 0 0) := by rw [kZ0.cell]; rfl
                      have f0 := kZ0.frozen 0
                      have f1 := kZ0.frozen 1
                      have f2 := kZ0.frozen 2
                      have zZ := kZ0.lt
                      have hk4 : k4 = k4 := rfl
                      go_simp
                      refine hK.out _ _ ?_ (fun hHeld2 => ?_)
                      · exact ((hHeld.set 0 _).set 1 _).set 2 _
                      clear hK K hHeld
                      have hHeld := hHeld2
                      clear hHeld2
                      (try simp only [Act.put, List.setIfInBounds_toArray, List.set_cons_zero, List.set_cons_succ])
                      refine reg_take (i := 15) (oi := _) (v := ?_) rfl (by kernel_rfl) (by kernel_rfl) (by kernel_rfl) (fun _ _ _ h => h) (by rfl) ?_ (by assumption) ?_
                      rotate_left
                      · intro w hSw; (try dsimp only at hSw); have d0 : w.cell? ⟨p, 0, none⟩ = some (.slice A1 x.now.length k1) := (by rw [hSw.1.cell]; rfl); have d1 : w.cell? ⟨p, 1, none⟩ = some (.slice A2 x.sure.length k2) := (by rw [hSw.1.cell]; rfl); have d2 : w.cell? ⟨p, 2, none⟩ = some (.slice A3 x.T.length k3) := (by rw [hSw.1.cell]; rfl); have s0 : w.cell? ⟨p + 1, 0, none⟩ = some (.int .i64 2) := (by rw [hSw.2.cell]; rfl); have s1 : w.cell? ⟨p + 1, 1, none⟩ = some (.string ⟨n.toArray⟩) := (by rw [hSw.2.cell]; rfl); have s2 : w.cell? ⟨p + 1, 2, none⟩ = some (.string ⟨t.toArray⟩) := (by rw [hSw.2.cell]; rfl); have s3 : w.cell? ⟨p + 1, 3, none⟩ = some (.string ⟨b.toArray⟩) := (by rw [hSw.2.cell]; rfl); have zD := hSw.1.lt; have zS := hSw.2.lt; go_simp; try with_reducible rfl
                      (try simp only [Act.put, List.setIfInBounds_toArray, List.set_cons_zero, List.set_cons_succ])
                      refine wpAnyH_done (by kernel_rfl) ?_ _
                      refine NoPanic.normal ?_
                      clear hHeld y0 y1 y2 f0 f1 f2 zZ
                      go_wp2_with (fail)
                      have kZ1 := kZ0.put 0 (.slice A4 l4 k4) rfl
                      have kZ2 := kZ1.put 1 (.slice A2 x.sure.length k2) rfl
                      have kZ3 := kZ2.put 2 (.slice A5 l5 k5) rfl
                      have KK := (KeptD.set kZ0 0 (.slice A4 l4 k4)).trans ((KeptD.set kZ1 1 (.slice A2 x.sure.length k2)).trans (KeptD.set kZ2 2 (.slice A5 l5 k5)))
                      rw [HC.out, HXX.out]
                      refine bodyPost_end (results_ct_row rfl _ _ (p + 2) _ _ _ _ rfl kZ3) rfl ⟨_, rfl, ⟨_, _, _, rfl, HF3.out.keptD KK, (HW2.out.kept (KeptY.below B3.out)).keptD KK, (RdD.of_owns OWN12.out).keptD KK⟩, ?_⟩
                      exact below_set3 (HWB.out.trans (B3.out.mono HWB.out.size)) (by rw [HP.out]; omega)
                    exact AllReadyH.nil
                  exact AllReadyH.nil
                exact AllReadyH.nil
              exact AllReadyH.nil
            refine reg_each (o := _) rfl (fun K hK => ?_) ?_
            · skip
              go_simp
              have B0 := Lib.hid (BD.out.alloc BD.out.size (.cells #[.int .i64 2, .string ⟨n.toArray⟩, .string ⟨t.toArray⟩, .string ⟨b.toArray⟩] 79))
              refine hK.out _ _ ?_ (fun hHeld2 => ?_)
              · exact HS0.out.of B0.out
              clear hK K hHeld
              have hHeld := hHeld2
              clear hHeld2
              (try simp only [Act.put, List.setIfInBounds_toArray, List.set_cons_zero, List.set_cons_succ])
              have P11 := Lib.hid (show RdD (wd.alloc (.cells #[.int .i64 2, .string ⟨n.toArray⟩, .string ⟨t.toArray⟩, .string ⟨b.toArray⟩] 79)) (.slice (some ⟨wd.heap.size, 0, none⟩) 1 1) [(⟨⟨n.toArray⟩, ⟨t.toArray⟩, sv, b, false, true⟩ : Stp)] from RdD.one wd (⟨⟨n.toArray⟩, ⟨t.toArray⟩, sv, b, false, true⟩ : Stp))
              have AL := KeptY.below ((Below.refl wd.heap.size wd).alloc (Nat.le_refl _) (.cells #[.int .i64 2, .string ⟨n.toArray⟩, .string ⟨t.toArray⟩, .string ⟨b.toArray⟩] 79))
              have Z11 := Lib.hid (show wd.heap.size < (wd.alloc (.cells #[.int .i64 2, .string ⟨n.toArray⟩, .string ⟨t.toArray⟩, .string ⟨b.toArray⟩] 79)).heap.size by simp)
              clear AL BD
              generalize wd.alloc (Obj.cells #[.int .i64 2, .string ⟨n.toArray⟩, .string ⟨t.toArray⟩, .string ⟨b.toArray⟩] 79) = wx0 at *
              generalize wd.heap.size = p11 at *
              refine wpAnyH_ready (rs := [3]) (by kernel_rfl) (by simp) ?_
              refine reg_each (o := _) rfl (fun K hK => ?_) ?_
              · skip
                go_simp
                refine (DO.out _ B0.out).mono ?_
                rintro q wx1 ⟨v3, rfl, hr3, hb3⟩
                have B1 := Lib.hid (below_trans B0.out hb3)
                have HR3 := Lib.hid hr3
                have HB3 := Lib.hid hb3
                clear hr3 hb3
                go_wp2_with (fail)
                refine hK.out _ _ ?_ (fun hHeld2 => ?_)
                · exact HS0.out.of B1.out
                clear hK K hHeld
                have hHeld := hHeld2
                clear hHeld2
                (try simp only [Act.put, List.setIfInBounds_toArray, List.set_cons_zero, List.set_cons_succ])
                have Z11 := Lib.hid (Nat.lt_of_lt_of_le Z11.out HB3.out.size)
                obtain ⟨A4, l4, k4, rfl⟩ : ∃ A l c, v3 = .slice A l c := by obtain ⟨A, c, e⟩ := RdF.owned HR3.out; exact ⟨_, _, _, e⟩
                have HF3 := Lib.hid (RdF.of_owns HR3.out)
                have P11 := Lib.hid (P11.out.kept (KeptY.below HB3.out))
                clear HR3 HB3 B0
                refine wpAnyH_ready (rs := [9]) (by kernel_rfl) (by simp) ?_
                refine reg_each (o := _) rfl (fun K hK => ?_) ?_
                · skip
                  refine step_append_D rfl (.tmp 62) (.tmp 64) rfl w3.heap.size (.slice none 0 0) _ [] x.T rfl rfl (World.ownsRow_nil _ _ _ _) (HW3.out.kept (KeptY.below B1.out)) (by simp; omega) B1.out.size ?_
                  intro v9 wx2 own9 gr9 at9
                  have hb9 := grown_none gr9 rfl
                  have B2 := Lib.hid (below_trans B1.out hb9)
                  refine hK.out _ _ ?_ (fun hHeld2 => ?_)
                  · exact HS0.out.of B2.out
                  clear hK K hHeld
                  have hHeld := hHeld2
                  clear hHeld2
                  (try simp only [Act.put, List.setIfInBounds_toArray, List.set_cons_zero, List.set_cons_succ])
                  have OWN9 := Lib.hid (show wx2.ownsRow w3.heap.size 79 4 v9 x.T.length (cellsD x.T) from own9)
                  have HF3 := Lib.hid (HF3.out.kept (KeptY.below hb9))
                  have P11 := Lib.hid (P11.out.kept (KeptY.below hb9))
                  have N11 := Lib.hid (show v9.ownBlock ≠ some p11 from fun e => by
                    rcases at9 with h | h
                    · rw [h] at e; cases e
                    · rw [h] at e; have := Option.some.inj e; have := Z11.out; omega)
                  clear own9 gr9 at9 hb9 B1
                  refine wpAnyH_ready (rs := [12]) (by kernel_rfl) (by simp) ?_
                  refine reg_each (o := _) rfl (fun K hK => ?_) ?_
                  · skip
                    refine step_append_D rfl (.tmp 65) (.tmp 67) rfl w3.heap.size v9 _ x.T [(⟨⟨n.toArray⟩, ⟨t.toArray⟩, sv, b, false, true⟩ : Stp)] rfl rfl OWN9.out P11.out (by simp; omega) B2.out.size ?_
                    intro v12 wx3 own12 gr12 at12
                    have B3 := Lib.hid (below_grown' B2.out gr12 (fun k e => (OWN9.out.lt k e).1) B2.out.size)
                    refine hK.out _ _ ?_ (fun hHeld2 => ?_)
                    · exact HS0.out.of B3.out
                    clear hK K hHeld
                    have hHeld := hHeld2
                    clear hHeld2
                    (try simp only [Act.put, List.setIfInBounds_toArray, List.set_cons_zero, List.set_cons_succ])
                    have HF3 := Lib.hid (HF3.out.app OWN9.out gr12)
                    have OWN12 := Lib.hid own12
                    obtain ⟨A5, l5, k5, rfl⟩ : ∃ A l c, v12 = .slice A l c := by obtain ⟨A, c, e⟩ := RdD.owned own12; exact ⟨_, _, _, e⟩
                    clear own12 gr12 at12 OWN9 P11 B2
                    refine reg_take (i := 13) (oi := _) (v := ?_) rfl (by kernel_rfl) (by kernel_rfl) (by kernel_rfl) (fun _ _ _ h => h) (by rfl) ?_ (by assumption) ?_
                    rotate_left
                    · intro w hSw; (try dsimp only at hSw); have d0 : w.cell? ⟨p, 0, none⟩ = some (.slice A1 x.now.length k1) := (by rw [hSw.1.cell]; rfl); have d1 : w.cell? ⟨p, 1, none⟩ = some (.slice A2 x.sure.length k2) := (by rw [hSw.1.cell]; rfl); have d2 : w.cell? ⟨p, 2, none⟩ = some (.slice A3 x.T.length k3) := (by rw [hSw.1.cell]; rfl); have s0 : w.cell? ⟨p + 1, 0, none⟩ = some (.int .i64 2) := (by rw [hSw.2.cell]; rfl); have s1 : w.cell? ⟨p + 1, 1, none⟩ = some (.string ⟨n.toArray⟩) := (by rw [hSw.2.cell]; rfl); have s2 : w.cell? ⟨p + 1, 2, none⟩ = some (.string ⟨t.toArray⟩) := (by rw [hSw.2.cell]; rfl); have s3 : w.cell? ⟨p + 1, 3, none⟩ = some (.string ⟨b.toArray⟩) := (by rw [hSw.2.cell]; rfl); have zD := hSw.1.lt; have zS := hSw.2.lt; go_simp; try with_reducible rfl
                    (try simp only [Act.put, List.setIfInBounds_toArray, List.set_cons_zero, List.set_cons_succ])
                    refine wpAnyH_ready (rs := [14]) (by kernel_rfl) (by simp) ?_
                    refine reg_each (o := _) rfl (fun K hK => ?_) ?_
                    · skip
                      have kZ0 := HWZ.out.below B3.out
                      have y0 : wx3.cell? ⟨p + 2, 0, none⟩ = some (.slice none 0 0) := by rw [kZ0.cell]; rfl
                      have y1 : wx3.cell? ⟨p + 2, 1, none⟩ = some (.slice none 0 0) := by rw [kZ0.cell]; rfl
                      have y2 : wx3.cell? ⟨p + 2, 2, none⟩ = some (.slice none 0 0) := by rw [kZ0.cell]; rfl
                      have f0 := kZ0.frozen 0
                      have f1 := kZ0.frozen 1
                      have f2 := kZ0.frozen 2
                      have zZ := kZ0.lt
                      have hk4 : k4 = k4 := rfl
                      go_simp
                      refine hK.out _ _ ?_ (fun hHeld2 => ?_)
                      · exact ((hHeld.set 0 _).set 1 _).set 2 _
                      clear hK K hHeld
                      have hHeld := hHeld2
                      clear hHeld2
                      (try simp only [Act.put, List.setIfInBounds_toArray, List.set_cons_zero, List.set_cons_succ])
                      refine reg_take (i := 15) (oi := _) (v := ?_) rfl (by kernel_rfl) (by kernel_rfl) (by kernel_rfl) (fun _ _ _ h => h) (by rfl) ?_ (by assumption) ?_
                      rotate_left
                      · intro w hSw; (try dsimp only at hSw); have d0 : w.cell? ⟨p, 0, none⟩ = some (.slice A1 x.now.length k1) := (by rw [hSw.1.cell]; rfl); have d1 : w.cell? ⟨p, 1, none⟩ = some (.slice A2 x.sure.length k2) := (by rw [hSw.1.cell]; rfl); have d2 : w.cell? ⟨p, 2, none⟩ = some (.slice A3 x.T.length k3) := (by rw [hSw.1.cell]; rfl); have s0 : w.cell? ⟨p + 1, 0, none⟩ = some (.int .i64 2) := (by rw [hSw.2.cell]; rfl); have s1 : w.cell? ⟨p + 1, 1, none⟩ = some (.string ⟨n.toArray⟩) := (by rw [hSw.2.cell]; rfl); have s2 : w.cell? ⟨p + 1, 2, none⟩ = some (.string ⟨t.toArray⟩) := (by rw [hSw.2.cell]; rfl); have s3 : w.cell? ⟨p + 1, 3, none⟩ = some (.string ⟨b.toArray⟩) := (by rw [hSw.2.cell]; rfl); have zD := hSw.1.lt; have zS := hSw.2.lt; go_simp; try with_reducible rfl
                      (try simp only [Act.put, List.setIfInBounds_toArray, List.set_cons_zero, List.set_cons_succ])
                      refine wpAnyH_done (by kernel_rfl) ?_ _
                      refine NoPanic.normal ?_
                      clear hHeld y0 y1 y2 f0 f1 f2 zZ
                      go_wp2_with (fail)
                      have kZ1 := kZ0.put 0 (.slice A4 l4 k4) rfl
                      have kZ2 := kZ1.put 1 (.slice A2 x.sure.length k2) rfl
                      have kZ3 := kZ2.put 2 (.slice A5 l5 k5) rfl
                      have KK := (KeptD.set kZ0 0 (.slice A4 l4 k4)).trans ((KeptD.set kZ1 1 (.slice A2 x.sure.length k2)).trans (KeptD.set kZ2 2 (.slice A5 l5 k5)))
                      rw [HC.out, HXX.out]
                      refine bodyPost_end (results_ct_row rfl _ _ (p + 2) _ _ _ _ rfl kZ3) rfl ⟨_, rfl, ⟨_, _, _, rfl, HF3.out.keptD KK, (HW2.out.kept (KeptY.below B3.out)).keptD KK, (RdD.of_owns OWN12.out).keptD KK⟩, ?_⟩
                      exact below_set3 (HWB.out.trans (B3.out.mono HWB.out.size)) (by rw [HP.out]; omega)
                    exact AllReadyH.nil
                  exact AllReadyH.nil
                exact AllReadyH.nil
              exact AllReadyH.nil
            exact AllReadyH.nil
    | false =>
      have hk0 : k = 1 := by rw [← hk]; rfl
      subst hk0
      clear hk
      go_enter Tryd.func32, Tryd.ntmps32
      go_upto_region 1 with (fail)
      generalize ((w.alloc (.cells #[.slice A1 x.now.length k1, .slice A2 x.sure.length k2, .slice A3 x.T.length k3] 41)).alloc (.cells #[.int .i64 1, .string ⟨n.toArray⟩, .string ⟨t.toArray⟩, .string ⟨b.toArray⟩] 79)).alloc (.cells #[.slice none 0 0, .slice none 0 0, .slice none 0 0] 41) = w1 at *
      generalize hp : w.heap.size = p at *
      have HP := Lib.hid hp
      clear hp
      have HBW := Lib.hid (Below.refl w1.heap.size w1)
      have kD := HKD.out.below HBW.out
      have kS := HKS.out.below HBW.out
      have kZ := HKZ.out.below HBW.out
      have d0 : w1.cell? ⟨p, 0, none⟩ = some (.slice A1 x.now.length k1) := by rw [kD.cell]; rfl
      have d1 : w1.cell? ⟨p, 1, none⟩ = some (.slice A2 x.sure.length k2) := by rw [kD.cell]; rfl
      have d2 : w1.cell? ⟨p, 2, none⟩ = some (.slice A3 x.T.length k3) := by rw [kD.cell]; rfl
      have s0 : w1.cell? ⟨p + 1, 0, none⟩ = some (.int .i64 1) := by rw [kS.cell]; rfl
      have s1 : w1.cell? ⟨p + 1, 1, none⟩ = some (.string ⟨n.toArray⟩) := by rw [kS.cell]; rfl
      have s2 : w1.cell? ⟨p + 1, 2, none⟩ = some (.string ⟨t.toArray⟩) := by rw [kS.cell]; rfl
      have s3 : w1.cell? ⟨p + 1, 3, none⟩ = some (.string ⟨b.toArray⟩) := by rw [kS.cell]; rfl
      have y0 : w1.cell? ⟨p + 2, 0, none⟩ = some (.slice none 0 0) := by rw [kZ.cell]; rfl
      have f0 := kZ.frozen 0
      have y1 : w1.cell? ⟨p + 2, 1, none⟩ = some (.slice none 0 0) := by rw [kZ.cell]; rfl
      have f1 := kZ.frozen 1
      have y2 : w1.cell? ⟨p + 2, 2, none⟩ = some (.slice none 0 0) := by rw [kZ.cell]; rfl
      have f2 := kZ.frozen 2
      have zD := kD.lt
      have zS := kS.lt
      have zZ := kZ.lt
      clear kD kS kZ
      have NW := docnamed_walk ⟨n.toArray⟩ hn63 w1
      go_wp2_with (fail)
      refine Calls.mono NW ?_
      rintro y w2 ⟨rfl, hb⟩
      have HB2 := Lib.hid (below_trans HBW.out hb)
      rw [show (ByteArray.mk n.toArray).data.toList = n from rfl]
      clear NW hb HBW d0 d1 d2 s0 s1 s2 s3 y0 y1 y2 f0 f1 f2 zD zS zZ
      have HBW := HB2
      clear HB2
      cases hnn : namedF n with
      | false =>
        have kD := HKD.out.below HBW.out
        have kS := HKS.out.below HBW.out
        have kZ := HKZ.out.below HBW.out
        have d0 : w2.cell? ⟨p, 0, none⟩ = some (.slice A1 x.now.length k1) := by rw [kD.cell]; rfl
        have d1 : w2.cell? ⟨p, 1, none⟩ = some (.slice A2 x.sure.length k2) := by rw [kD.cell]; rfl
        have d2 : w2.cell? ⟨p, 2, none⟩ = some (.slice A3 x.T.length k3) := by rw [kD.cell]; rfl
        have s0 : w2.cell? ⟨p + 1, 0, none⟩ = some (.int .i64 1) := by rw [kS.cell]; rfl
        have s1 : w2.cell? ⟨p + 1, 1, none⟩ = some (.string ⟨n.toArray⟩) := by rw [kS.cell]; rfl
        have s2 : w2.cell? ⟨p + 1, 2, none⟩ = some (.string ⟨t.toArray⟩) := by rw [kS.cell]; rfl
        have s3 : w2.cell? ⟨p + 1, 3, none⟩ = some (.string ⟨b.toArray⟩) := by rw [kS.cell]; rfl
        have y0 : w2.cell? ⟨p + 2, 0, none⟩ = some (.slice none 0 0) := by rw [kZ.cell]; rfl
        have f0 := kZ.frozen 0
        have y1 : w2.cell? ⟨p + 2, 1, none⟩ = some (.slice none 0 0) := by rw [kZ.cell]; rfl
        have f1 := kZ.frozen 1
        have y2 : w2.cell? ⟨p + 2, 2, none⟩ = some (.slice none 0 0) := by rw [kZ.cell]; rfl
        have f2 := kZ.frozen 2
        have zD := kD.lt
        have zS := kS.lt
        have zZ := kZ.lt
        clear kD kS kZ
        have HC := Lib.hid (show tryN x n t b false false = 11 from by unfold tryN; rw [if_pos hnn])
        have HXX := Lib.hid (show TryX x n t b sv false false = x from if_neg (by rw [HC.out]; decide))
        go_wp2_with (fail)
        have kZ0 := HKZ.out.below HBW.out
        have kZ1 := kZ0.put 0 (.slice A1 x.now.length k1) rfl
        have kZ2 := kZ1.put 1 (.slice A2 x.sure.length k2) rfl
        have kZ3 := kZ2.put 2 (.slice A3 x.T.length k3) rfl
        have KK := ((KeptD.of (KeptY.below HBW.out)).trans (KeptD.set kZ0 0 (.slice A1 x.now.length k1))).trans ((KeptD.set kZ1 1 (.slice A2 x.sure.length k2)).trans (KeptD.set kZ2 2 (.slice A3 x.T.length k3)))
        rw [HC.out, HXX.out]
        refine bodyPost_end (results_ct_row rfl _ _ (p + 2) _ _ _ _ rfl kZ3) rfl ⟨_, rfl, ?_, ?_⟩
        · exact ⟨_, _, _, rfl, H1.out.keptD KK, H2.out.keptD KK, H3.out.keptD KK⟩
        · rw [HP.out]
          exact below_set3 (HBZ.out.trans (HBW.out.mono (by have := HKD.out.lt; omega))) (by omega)
      | true =>
        have kD := HKD.out.below HBW.out
        have kS := HKS.out.below HBW.out
        have kZ := HKZ.out.below HBW.out
        have d0 : w2.cell? ⟨p, 0, none⟩ = some (.slice A1 x.now.length k1) := by rw [kD.cell]; rfl
        have d1 : w2.cell? ⟨p, 1, none⟩ = some (.slice A2 x.sure.length k2) := by rw [kD.cell]; rfl
        have d2 : w2.cell? ⟨p, 2, none⟩ = some (.slice A3 x.T.length k3) := by rw [kD.cell]; rfl
        have s0 : w2.cell? ⟨p + 1, 0, none⟩ = some (.int .i64 1) := by rw [kS.cell]; rfl
        have s1 : w2.cell? ⟨p + 1, 1, none⟩ = some (.string ⟨n.toArray⟩) := by rw [kS.cell]; rfl
        have s2 : w2.cell? ⟨p + 1, 2, none⟩ = some (.string ⟨t.toArray⟩) := by rw [kS.cell]; rfl
        have s3 : w2.cell? ⟨p + 1, 3, none⟩ = some (.string ⟨b.toArray⟩) := by rw [kS.cell]; rfl
        have y0 : w2.cell? ⟨p + 2, 0, none⟩ = some (.slice none 0 0) := by rw [kZ.cell]; rfl
        have f0 := kZ.frozen 0
        have y1 : w2.cell? ⟨p + 2, 1, none⟩ = some (.slice none 0 0) := by rw [kZ.cell]; rfl
        have f1 := kZ.frozen 1
        have y2 : w2.cell? ⟨p + 2, 2, none⟩ = some (.slice none 0 0) := by rw [kZ.cell]; rfl
        have f2 := kZ.frozen 2
        have zD := kD.lt
        have zS := kS.lt
        have zZ := kZ.lt
        clear kD kS kZ
        have NW := docnamed_walk ⟨t.toArray⟩ ht63 w2
        go_wp2_with (fail)
        refine Calls.mono NW ?_
        rintro y w3 ⟨rfl, hb⟩
        have HB2 := Lib.hid (below_trans HBW.out hb)
        rw [show (ByteArray.mk t.toArray).data.toList = t from rfl]
        clear NW hb HBW d0 d1 d2 s0 s1 s2 s3 y0 y1 y2 f0 f1 f2 zD zS zZ
        have HBW := HB2
        clear HB2
        cases hnt : namedF t with
        | false =>
          have kD := HKD.out.below HBW.out
          have kS := HKS.out.below HBW.out
          have kZ := HKZ.out.below HBW.out
          have d0 : w3.cell? ⟨p, 0, none⟩ = some (.slice A1 x.now.length k1) := by rw [kD.cell]; rfl
          have d1 : w3.cell? ⟨p, 1, none⟩ = some (.slice A2 x.sure.length k2) := by rw [kD.cell]; rfl
          have d2 : w3.cell? ⟨p, 2, none⟩ = some (.slice A3 x.T.length k3) := by rw [kD.cell]; rfl
          have s0 : w3.cell? ⟨p + 1, 0, none⟩ = some (.int .i64 1) := by rw [kS.cell]; rfl
          have s1 : w3.cell? ⟨p + 1, 1, none⟩ = some (.string ⟨n.toArray⟩) := by rw [kS.cell]; rfl
          have s2 : w3.cell? ⟨p + 1, 2, none⟩ = some (.string ⟨t.toArray⟩) := by rw [kS.cell]; rfl
          have s3 : w3.cell? ⟨p + 1, 3, none⟩ = some (.string ⟨b.toArray⟩) := by rw [kS.cell]; rfl
          have y0 : w3.cell? ⟨p + 2, 0, none⟩ = some (.slice none 0 0) := by rw [kZ.cell]; rfl
          have f0 := kZ.frozen 0
          have y1 : w3.cell? ⟨p + 2, 1, none⟩ = some (.slice none 0 0) := by rw [kZ.cell]; rfl
          have f1 := kZ.frozen 1
          have y2 : w3.cell? ⟨p + 2, 2, none⟩ = some (.slice none 0 0) := by rw [kZ.cell]; rfl
          have f2 := kZ.frozen 2
          have zD := kD.lt
          have zS := kS.lt
          have zZ := kZ.lt
          clear kD kS kZ
          have HC := Lib.hid (show tryN x n t b false false = 11 from by unfold tryN; rw [if_neg (by rw [hnn]; decide), if_pos ⟨⟨rfl, rfl⟩, hnt⟩])
          have HXX := Lib.hid (show TryX x n t b sv false false = x from if_neg (by rw [HC.out]; decide))
          go_wp2_with (fail)
          have kZ0 := HKZ.out.below HBW.out
          have kZ1 := kZ0.put 0 (.slice A1 x.now.length k1) rfl
          have kZ2 := kZ1.put 1 (.slice A2 x.sure.length k2) rfl
          have kZ3 := kZ2.put 2 (.slice A3 x.T.length k3) rfl
          have KK := ((KeptD.of (KeptY.below HBW.out)).trans (KeptD.set kZ0 0 (.slice A1 x.now.length k1))).trans ((KeptD.set kZ1 1 (.slice A2 x.sure.length k2)).trans (KeptD.set kZ2 2 (.slice A3 x.T.length k3)))
          rw [HC.out, HXX.out]
          refine bodyPost_end (results_ct_row rfl _ _ (p + 2) _ _ _ _ rfl kZ3) rfl ⟨_, rfl, ?_, ?_⟩
          · exact ⟨_, _, _, rfl, H1.out.keptD KK, H2.out.keptD KK, H3.out.keptD KK⟩
          · rw [HP.out]
            exact below_set3 (HBZ.out.trans (HBW.out.mono (by have := HKD.out.lt; omega))) (by omega)
        | true =>
          have kD := HKD.out.below HBW.out
          have kS := HKS.out.below HBW.out
          have kZ := HKZ.out.below HBW.out
          have d0 : w3.cell? ⟨p, 0, none⟩ = some (.slice A1 x.now.length k1) := by rw [kD.cell]; rfl
          have d1 : w3.cell? ⟨p, 1, none⟩ = some (.slice A2 x.sure.length k2) := by rw [kD.cell]; rfl
          have d2 : w3.cell? ⟨p, 2, none⟩ = some (.slice A3 x.T.length k3) := by rw [kD.cell]; rfl
          have s0 : w3.cell? ⟨p + 1, 0, none⟩ = some (.int .i64 1) := by rw [kS.cell]; rfl
          have s1 : w3.cell? ⟨p + 1, 1, none⟩ = some (.string ⟨n.toArray⟩) := by rw [kS.cell]; rfl
          have s2 : w3.cell? ⟨p + 1, 2, none⟩ = some (.string ⟨t.toArray⟩) := by rw [kS.cell]; rfl
          have s3 : w3.cell? ⟨p + 1, 3, none⟩ = some (.string ⟨b.toArray⟩) := by rw [kS.cell]; rfl
          have y0 : w3.cell? ⟨p + 2, 0, none⟩ = some (.slice none 0 0) := by rw [kZ.cell]; rfl
          have f0 := kZ.frozen 0
          have y1 : w3.cell? ⟨p + 2, 1, none⟩ = some (.slice none 0 0) := by rw [kZ.cell]; rfl
          have f1 := kZ.frozen 1
          have y2 : w3.cell? ⟨p + 2, 2, none⟩ = some (.slice none 0 0) := by rw [kZ.cell]; rfl
          have f2 := kZ.frozen 2
          have zD := kD.lt
          have zS := kS.lt
          have zZ := kZ.lt
          clear kD kS kZ
          have FW := find_walk _ x.now n w3 (H1.out.kept (KeptY.below HBW.out)) hF
          go_wp2_with (fail)
          refine Calls.mono FW ?_
          rintro y w4 ⟨r, rfl, rfl, hr⟩
          clear FW
          rcases hr with ⟨rfl, hl⟩ | ⟨q, f, rfl, _, _, hl⟩
          · skip
            have HC := Lib.hid (show tryN x n t b false false = 8 from by unfold tryN; rw [if_neg (by rw [hnn]; decide), if_neg (fun h => by rw [hnt] at h; exact absurd h.2 (by decide)), if_neg (by decide), if_pos (by rw [hl]; rfl)])
            have HXX := Lib.hid (show TryX x n t b sv false false = x from if_neg (by rw [HC.out]; decide))
            go_wp2_with (fail)
            have kZ0 := HKZ.out.below HBW.out
            have kZ1 := kZ0.put 0 (.slice A1 x.now.length k1) rfl
            have kZ2 := kZ1.put 1 (.slice A2 x.sure.length k2) rfl
            have kZ3 := kZ2.put 2 (.slice A3 x.T.length k3) rfl
            have KK := ((KeptD.of (KeptY.below HBW.out)).trans (KeptD.set kZ0 0 (.slice A1 x.now.length k1))).trans ((KeptD.set kZ1 1 (.slice A2 x.sure.length k2)).trans (KeptD.set kZ2 2 (.slice A3 x.T.length k3)))
            rw [HC.out, HXX.out]
            refine bodyPost_end (results_ct_row rfl _ _ (p + 2) _ _ _ _ rfl kZ3) rfl ⟨_, rfl, ?_, ?_⟩
            · exact ⟨_, _, _, rfl, H1.out.keptD KK, H2.out.keptD KK, H3.out.keptD KK⟩
            · rw [HP.out]
              exact below_set3 (HBZ.out.trans (HBW.out.mono (by have := HKD.out.lt; omega))) (by omega)
          · have q0 : (0 : Int) ≤ q := by omega
            have HLK := Lib.hid (show (lookF x.now n).isSome = true by rw [hl]; rfl)
            by_cases hT2 : 4096 ≤ x.T.length
            · have hT2' : (4096 : Int) ≤ (x.T.length : Int) := by omega
              have HC := Lib.hid (show tryN x n t b false false = 10 from by unfold tryN; rw [if_neg (by rw [hnn]; decide), if_neg (fun h => by rw [hnt] at h; exact absurd h.2 (by decide)), if_neg (by decide), if_neg (fun h => by rw [hl] at h; cases h), if_pos hT2])
              have HXX := Lib.hid (show TryX x n t b sv false false = x from if_neg (by rw [HC.out]; decide))
              go_wp2_with (fail)
              have kZ0 := HKZ.out.below HBW.out
              have kZ1 := kZ0.put 0 (.slice A1 x.now.length k1) rfl
              have kZ2 := kZ1.put 1 (.slice A2 x.sure.length k2) rfl
              have kZ3 := kZ2.put 2 (.slice A3 x.T.length k3) rfl
              have KK := ((KeptD.of (KeptY.below HBW.out)).trans (KeptD.set kZ0 0 (.slice A1 x.now.length k1))).trans ((KeptD.set kZ1 1 (.slice A2 x.sure.length k2)).trans (KeptD.set kZ2 2 (.slice A3 x.T.length k3)))
              rw [HC.out, HXX.out]
              refine bodyPost_end (results_ct_row rfl _ _ (p + 2) _ _ _ _ rfl kZ3) rfl ⟨_, rfl, ?_, ?_⟩
              · exact ⟨_, _, _, rfl, H1.out.keptD KK, H2.out.keptD KK, H3.out.keptD KK⟩
              · rw [HP.out]
                exact below_set3 (HBZ.out.trans (HBW.out.mono (by have := HKD.out.lt; omega))) (by omega)
            · have hT2' : ¬ (4096 : Int) ≤ (x.T.length : Int) := by omega
              have HC := Lib.hid (show tryN x n t b false false = 0 from by unfold tryN; rw [if_neg (by rw [hnn]; decide), if_neg (fun h => by rw [hnt] at h; exact absurd h.2 (by decide)), if_neg (by decide), if_neg (fun h => by rw [hl] at h; cases h), if_neg hT2])
              have HXX := Lib.hid (show TryX x n t b sv false false = TryS x n t b sv false false from if_pos HC.out)
              have HS0 := Lib.hid (show S13 p (.slice A1 x.now.length k1) (.slice A2 x.sure.length k2) (.slice A3 x.T.length k3) (.int .i64 1) (.string ⟨n.toArray⟩) (.string ⟨t.toArray⟩) (.string ⟨b.toArray⟩) w4 from ⟨HKD.out.below HBW.out, HKS.out.below HBW.out⟩)
              have HW1 := Lib.hid (H1.out.kept (KeptY.below HBW.out))
              have HW2 := Lib.hid (H2.out.kept (KeptY.below HBW.out))
              have HW3 := Lib.hid (H3.out.kept (KeptY.below HBW.out))
              have HWZ := Lib.hid (HKZ.out.below HBW.out)
              have HWB := Lib.hid (show Below w.heap.size w w4 by rw [HP.out]; exact HBZ.out.trans (HBW.out.mono (by have := HKD.out.lt; omega)))
              have HPW := Lib.hid (show p + 2 < w4.heap.size from HWZ.out.lt)
              have DO := Lib.hid (fun (w' : World) (hb : Below w4.heap.size w4 w') => docdo_walk (.slice A1 x.now.length k1) x.now n t b sv false false w' (HW1.out.kept (KeptY.below hb)) hF (fun _ _ => HLK.out))
              skip
              go_upto_region 13 with (fail)
              clear HKD HKS HKZ HBW H1 H2 H3 HBZ d0 d1 d2 s0 s1 s2 s3 y0 y1 y2 f0 f1 f2 zD zS zZ
              refine wp_region_noPanic ?_
              refine wp_region_held_drew (S := (fun w' => S13 p (.slice A1 x.now.length k1) (.slice A2 x.sure.length k2) (.slice A3 x.T.length k3) (.int .i64 1) (.string ⟨n.toArray⟩) (.string ⟨t.toArray⟩) (.string ⟨b.toArray⟩) w')) (by kernel_rfl) ?_ (fun hHeld => ?_)
              · exact HS0.out
              have BD := Lib.hid (show Below w4.heap.size w4 w4.drew from below_drewN (Below.refl _ _) 1)
              generalize w4.drew = wd at *
              refine reg_take (i := 0) (oi := _) (v := ?_) rfl (by kernel_rfl) (by kernel_rfl) (by kernel_rfl) (fun _ _ _ h => h) (by rfl) ?_ (by assumption) ?_
              rotate_left
              · intro w hSw; (try dsimp only at hSw); have d0 : w.cell? ⟨p, 0, none⟩ = some (.slice A1 x.now.length k1) := (by rw [hSw.1.cell]; rfl); have d1 : w.cell? ⟨p, 1, none⟩ = some (.slice A2 x.sure.length k2) := (by rw [hSw.1.cell]; rfl); have d2 : w.cell? ⟨p, 2, none⟩ = some (.slice A3 x.T.length k3) := (by rw [hSw.1.cell]; rfl); have s0 : w.cell? ⟨p + 1, 0, none⟩ = some (.int .i64 1) := (by rw [hSw.2.cell]; rfl); have s1 : w.cell? ⟨p + 1, 1, none⟩ = some (.string ⟨n.toArray⟩) := (by rw [hSw.2.cell]; rfl); have s2 : w.cell? ⟨p + 1, 2, none⟩ = some (.string ⟨t.toArray⟩) := (by rw [hSw.2.cell]; rfl); have s3 : w.cell? ⟨p + 1, 3, none⟩ = some (.string ⟨b.toArray⟩) := (by rw [hSw.2.cell]; rfl); have zD := hSw.1.lt; have zS := hSw.2.lt; go_simp; try with_reducible rfl
              (try simp only [Act.put, List.setIfInBounds_toArray, List.set_cons_zero, List.set_cons_succ])
              refine reg_take (i := 1) (oi := _) (v := ?_) rfl (by kernel_rfl) (by kernel_rfl) (by kernel_rfl) (fun _ _ _ h => h) (by rfl) ?_ (by assumption) ?_
              rotate_left
              · intro w hSw; (try dsimp only at hSw); have d0 : w.cell? ⟨p, 0, none⟩ = some (.slice A1 x.now.length k1) := (by rw [hSw.1.cell]; rfl); have d1 : w.cell? ⟨p, 1, none⟩ = some (.slice A2 x.sure.length k2) := (by rw [hSw.1.cell]; rfl); have d2 : w.cell? ⟨p, 2, none⟩ = some (.slice A3 x.T.length k3) := (by rw [hSw.1.cell]; rfl); have s0 : w.cell? ⟨p + 1, 0, none⟩ = some (.int .i64 1) := (by rw [hSw.2.cell]; rfl); have s1 : w.cell? ⟨p + 1, 1, none⟩ = some (.string ⟨n.toArray⟩) := (by rw [hSw.2.cell]; rfl); have s2 : w.cell? ⟨p + 1, 2, none⟩ = some (.string ⟨t.toArray⟩) := (by rw [hSw.2.cell]; rfl); have s3 : w.cell? ⟨p + 1, 3, none⟩ = some (.string ⟨b.toArray⟩) := (by rw [hSw.2.cell]; rfl); have zD := hSw.1.lt; have zS := hSw.2.lt; go_simp; try with_reducible rfl
              (try simp only [Act.put, List.setIfInBounds_toArray, List.set_cons_zero, List.set_cons_succ])
              refine reg_take (i := 2) (oi := _) (v := ?_) rfl (by kernel_rfl) (by kernel_rfl) (by kernel_rfl) (fun _ _ _ h => h) (by rfl) ?_ (by assumption) ?_
              rotate_left
              · intro w hSw; (try dsimp only at hSw); have d0 : w.cell? ⟨p, 0, none⟩ = some (.slice A1 x.now.length k1) := (by rw [hSw.1.cell]; rfl); have d1 : w.cell? ⟨p, 1, none⟩ = some (.slice A2 x.sure.length k2) := (by rw [hSw.1.cell]; rfl); have d2 : w.cell? ⟨p, 2, none⟩ = some (.slice A3 x.T.length k3) := (by rw [hSw.1.cell]; rfl); have s0 : w.cell? ⟨p + 1, 0, none⟩ = some (.int .i64 1) := (by rw [hSw.2.cell]; rfl); have s1 : w.cell? ⟨p + 1, 1, none⟩ = some (.string ⟨n.toArray⟩) := (by rw [hSw.2.cell]; rfl); have s2 : w.cell? ⟨p + 1, 2, none⟩ = some (.string ⟨t.toArray⟩) := (by rw [hSw.2.cell]; rfl); have s3 : w.cell? ⟨p + 1, 3, none⟩ = some (.string ⟨b.toArray⟩) := (by rw [hSw.2.cell]; rfl); have zD := hSw.1.lt; have zS := hSw.2.lt; go_simp; try with_reducible rfl
              (try simp only [Act.put, List.setIfInBounds_toArray, List.set_cons_zero, List.set_cons_succ])
              refine reg_take (i := 4) (oi := _) (v := ?_) rfl (by kernel_rfl) (by kernel_rfl) (by kernel_rfl) (fun _ _ _ h => h) (by rfl) ?_ (by assumption) ?_
              rotate_left
              · intro w hSw; (try dsimp only at hSw); have d0 : w.cell? ⟨p, 0, none⟩ = some (.slice A1 x.now.length k1) := (by rw [hSw.1.cell]; rfl); have d1 : w.cell? ⟨p, 1, none⟩ = some (.slice A2 x.sure.length k2) := (by rw [hSw.1.cell]; rfl); have d2 : w.cell? ⟨p, 2, none⟩ = some (.slice A3 x.T.length k3) := (by rw [hSw.1.cell]; rfl); have s0 : w.cell? ⟨p + 1, 0, none⟩ = some (.int .i64 1) := (by rw [hSw.2.cell]; rfl); have s1 : w.cell? ⟨p + 1, 1, none⟩ = some (.string ⟨n.toArray⟩) := (by rw [hSw.2.cell]; rfl); have s2 : w.cell? ⟨p + 1, 2, none⟩ = some (.string ⟨t.toArray⟩) := (by rw [hSw.2.cell]; rfl); have s3 : w.cell? ⟨p + 1, 3, none⟩ = some (.string ⟨b.toArray⟩) := (by rw [hSw.2.cell]; rfl); have zD := hSw.1.lt; have zS := hSw.2.lt; go_simp; try with_reducible rfl
              (try simp only [Act.put, List.setIfInBounds_toArray, List.set_cons_zero, List.set_cons_succ])
              refine reg_take (i := 5) (oi := _) (v := ?_) rfl (by kernel_rfl) (by kernel_rfl) (by kernel_rfl) (fun _ _ _ h => h) (by rfl) ?_ (by assumption) ?_
              rotate_left
              · intro w hSw; (try dsimp only at hSw); have d0 : w.cell? ⟨p, 0, none⟩ = some (.slice A1 x.now.length k1) := (by rw [hSw.1.cell]; rfl); have d1 : w.cell? ⟨p, 1, none⟩ = some (.slice A2 x.sure.length k2) := (by rw [hSw.1.cell]; rfl); have d2 : w.cell? ⟨p, 2, none⟩ = some (.slice A3 x.T.length k3) := (by rw [hSw.1.cell]; rfl); have s0 : w.cell? ⟨p + 1, 0, none⟩ = some (.int .i64 1) := (by rw [hSw.2.cell]; rfl); have s1 : w.cell? ⟨p + 1, 1, none⟩ = some (.string ⟨n.toArray⟩) := (by rw [hSw.2.cell]; rfl); have s2 : w.cell? ⟨p + 1, 2, none⟩ = some (.string ⟨t.toArray⟩) := (by rw [hSw.2.cell]; rfl); have s3 : w.cell? ⟨p + 1, 3, none⟩ = some (.string ⟨b.toArray⟩) := (by rw [hSw.2.cell]; rfl); have zD := hSw.1.lt; have zS := hSw.2.lt; go_simp; try with_reducible rfl
              (try simp only [Act.put, List.setIfInBounds_toArray, List.set_cons_zero, List.set_cons_succ])
              refine reg_take (i := 6) (oi := _) (v := ?_) rfl (by kernel_rfl) (by kernel_rfl) (by kernel_rfl) (fun _ _ _ h => h) (by rfl) ?_ (by assumption) ?_
              rotate_left
              · intro w hSw; (try dsimp only at hSw); have d0 : w.cell? ⟨p, 0, none⟩ = some (.slice A1 x.now.length k1) := (by rw [hSw.1.cell]; rfl); have d1 : w.cell? ⟨p, 1, none⟩ = some (.slice A2 x.sure.length k2) := (by rw [hSw.1.cell]; rfl); have d2 : w.cell? ⟨p, 2, none⟩ = some (.slice A3 x.T.length k3) := (by rw [hSw.1.cell]; rfl); have s0 : w.cell? ⟨p + 1, 0, none⟩ = some (.int .i64 1) := (by rw [hSw.2.cell]; rfl); have s1 : w.cell? ⟨p + 1, 1, none⟩ = some (.string ⟨n.toArray⟩) := (by rw [hSw.2.cell]; rfl); have s2 : w.cell? ⟨p + 1, 2, none⟩ = some (.string ⟨t.toArray⟩) := (by rw [hSw.2.cell]; rfl); have s3 : w.cell? ⟨p + 1, 3, none⟩ = some (.string ⟨b.toArray⟩) := (by rw [hSw.2.cell]; rfl); have zD := hSw.1.lt; have zS := hSw.2.lt; go_simp; try with_reducible rfl
              (try simp only [Act.put, List.setIfInBounds_toArray, List.set_cons_zero, List.set_cons_succ])
              refine reg_take (i := 7) (oi := _) (v := ?_) rfl (by kernel_rfl) (by kernel_rfl) (by kernel_rfl) (fun _ _ _ h => h) (by rfl) ?_ (by assumption) ?_
              rotate_left
              · intro w hSw; (try dsimp only at hSw); have d0 : w.cell? ⟨p, 0, none⟩ = some (.slice A1 x.now.length k1) := (by rw [hSw.1.cell]; rfl); have d1 : w.cell? ⟨p, 1, none⟩ = some (.slice A2 x.sure.length k2) := (by rw [hSw.1.cell]; rfl); have d2 : w.cell? ⟨p, 2, none⟩ = some (.slice A3 x.T.length k3) := (by rw [hSw.1.cell]; rfl); have s0 : w.cell? ⟨p + 1, 0, none⟩ = some (.int .i64 1) := (by rw [hSw.2.cell]; rfl); have s1 : w.cell? ⟨p + 1, 1, none⟩ = some (.string ⟨n.toArray⟩) := (by rw [hSw.2.cell]; rfl); have s2 : w.cell? ⟨p + 1, 2, none⟩ = some (.string ⟨t.toArray⟩) := (by rw [hSw.2.cell]; rfl); have s3 : w.cell? ⟨p + 1, 3, none⟩ = some (.string ⟨b.toArray⟩) := (by rw [hSw.2.cell]; rfl); have zD := hSw.1.lt; have zS := hSw.2.lt; go_simp; try with_reducible rfl
              (try simp only [Act.put, List.setIfInBounds_toArray, List.set_cons_zero, List.set_cons_succ])
              refine reg_take (i := 8) (oi := _) (v := ?_) rfl (by kernel_rfl) (by kernel_rfl) (by kernel_rfl) (fun _ _ _ h => h) (by rfl) ?_ (by assumption) ?_
              rotate_left
              · intro w hSw; (try dsimp only at hSw); have d0 : w.cell? ⟨p, 0, none⟩ = some (.slice A1 x.now.length k1) := (by rw [hSw.1.cell]; rfl); have d1 : w.cell? ⟨p, 1, none⟩ = some (.slice A2 x.sure.length k2) := (by rw [hSw.1.cell]; rfl); have d2 : w.cell? ⟨p, 2, none⟩ = some (.slice A3 x.T.length k3) := (by rw [hSw.1.cell]; rfl); have s0 : w.cell? ⟨p + 1, 0, none⟩ = some (.int .i64 1) := (by rw [hSw.2.cell]; rfl); have s1 : w.cell? ⟨p + 1, 1, none⟩ = some (.string ⟨n.toArray⟩) := (by rw [hSw.2.cell]; rfl); have s2 : w.cell? ⟨p + 1, 2, none⟩ = some (.string ⟨t.toArray⟩) := (by rw [hSw.2.cell]; rfl); have s3 : w.cell? ⟨p + 1, 3, none⟩ = some (.string ⟨b.toArray⟩) := (by rw [hSw.2.cell]; rfl); have zD := hSw.1.lt; have zS := hSw.2.lt; go_simp; try with_reducible rfl
              (try simp only [Act.put, List.setIfInBounds_toArray, List.set_cons_zero, List.set_cons_succ])
              refine reg_take (i := 10) (oi := _) (v := ?_) rfl (by kernel_rfl) (by kernel_rfl) (by kernel_rfl) (fun _ _ _ h => h) (by rfl) ?_ (by assumption) ?_
              rotate_left
              · intro w hSw; (try dsimp only at hSw); have d0 : w.cell? ⟨p, 0, none⟩ = some (.slice A1 x.now.length k1) := (by rw [hSw.1.cell]; rfl); have d1 : w.cell? ⟨p, 1, none⟩ = some (.slice A2 x.sure.length k2) := (by rw [hSw.1.cell]; rfl); have d2 : w.cell? ⟨p, 2, none⟩ = some (.slice A3 x.T.length k3) := (by rw [hSw.1.cell]; rfl); have s0 : w.cell? ⟨p + 1, 0, none⟩ = some (.int .i64 1) := (by rw [hSw.2.cell]; rfl); have s1 : w.cell? ⟨p + 1, 1, none⟩ = some (.string ⟨n.toArray⟩) := (by rw [hSw.2.cell]; rfl); have s2 : w.cell? ⟨p + 1, 2, none⟩ = some (.string ⟨t.toArray⟩) := (by rw [hSw.2.cell]; rfl); have s3 : w.cell? ⟨p + 1, 3, none⟩ = some (.string ⟨b.toArray⟩) := (by rw [hSw.2.cell]; rfl); have zD := hSw.1.lt; have zS := hSw.2.lt; go_simp; try with_reducible rfl
              (try simp only [Act.put, List.setIfInBounds_toArray, List.set_cons_zero, List.set_cons_succ])
              refine wpAnyH_ready (rs := [3, 11]) (by kernel_rfl) (by simp) ?_
              refine reg_each (o := _) rfl (fun K hK => ?_) ?_
              · skip
                go_simp
                refine (DO.out _ BD.out).mono ?_
                rintro q wx0 ⟨v3, rfl, hr3, hb3⟩
                have B0 := Lib.hid (below_trans BD.out hb3)
                have HR3 := Lib.hid hr3
                have HB3 := Lib.hid hb3
                clear hr3 hb3
                go_wp2_with (fail)
                refine hK.out _ _ ?_ (fun hHeld2 => ?_)
                · exact HS0.out.of B0.out
                clear hK K hHeld
                have hHeld := hHeld2
                clear hHeld2
                (try simp only [Act.put, List.setIfInBounds_toArray, List.set_cons_zero, List.set_cons_succ])
                obtain ⟨A4, l4, k4, rfl⟩ : ∃ A l c, v3 = .slice A l c := by obtain ⟨A, c, e⟩ := RdF.owned HR3.out; exact ⟨_, _, _, e⟩
                have HF3 := Lib.hid (RdF.of_owns HR3.out)
                clear HR3 HB3 BD
                refine wpAnyH_ready (rs := [9, 11]) (by kernel_rfl) (by simp) ?_
                refine reg_each (o := _) rfl (fun K hK => ?_) ?_
                · skip
                  refine step_append_D rfl (.tmp 62) (.tmp 64) rfl w4.heap.size (.slice none 0 0) _ [] x.T rfl rfl (World.ownsRow_nil _ _ _ _) (HW3.out.kept (KeptY.below B0.out)) (by simp; omega) B0.out.size ?_
                  intro v9 wx1 own9 gr9 at9
                  have hb9 := grown_none gr9 rfl
                  have B1 := Lib.hid (below_trans B0.out hb9)
                  refine hK.out _ _ ?_ (fun hHeld2 => ?_)
                  · exact HS0.out.of B1.out
                  clear hK K hHeld
                  have hHeld := hHeld2
                  clear hHeld2
                  (try simp only [Act.put, List.setIfInBounds_toArray, List.set_cons_zero, List.set_cons_succ])
                  have OWN9 := Lib.hid (show wx1.ownsRow w4.heap.size 79 4 v9 x.T.length (cellsD x.T) from own9)
                  have HF3 := Lib.hid (HF3.out.kept (KeptY.below hb9))
                  clear own9 gr9 at9 hb9 B0
                  refine wpAnyH_ready (rs := [11]) (by kernel_rfl) (by simp) ?_
                  refine reg_each (o := _) rfl (fun K hK => ?_) ?_
                  · skip
                    go_simp
                    have B2 := Lib.hid (B1.out.alloc B1.out.size (.cells #[.int .i64 1, .string ⟨n.toArray⟩, .string ⟨t.toArray⟩, .string ⟨b.toArray⟩] 79))
                    refine hK.out _ _ ?_ (fun hHeld2 => ?_)
                    · exact HS0.out.of B2.out
                    clear hK K hHeld
                    have hHeld := hHeld2
                    clear hHeld2
                    (try simp only [Act.put, List.setIfInBounds_toArray, List.set_cons_zero, List.set_cons_succ])
                    have P11 := Lib.hid (show RdD (wx1.alloc (.cells #[.int .i64 1, .string ⟨n.toArray⟩, .string ⟨t.toArray⟩, .string ⟨b.toArray⟩] 79)) (.slice (some ⟨wx1.heap.size, 0, none⟩) 1 1) [(⟨⟨n.toArray⟩, ⟨t.toArray⟩, sv, b, false, false⟩ : Stp)] from RdD.one wx1 (⟨⟨n.toArray⟩, ⟨t.toArray⟩, sv, b, false, false⟩ : Stp))
                    have AL := KeptY.below ((Below.refl wx1.heap.size wx1).alloc (Nat.le_refl _) (.cells #[.int .i64 1, .string ⟨n.toArray⟩, .string ⟨t.toArray⟩, .string ⟨b.toArray⟩] 79))
                    have HF3 := Lib.hid (HF3.out.kept AL)
                    have N11 := Lib.hid (show v9.ownBlock ≠ some wx1.heap.size from fun e => Nat.lt_irrefl _ (OWN9.out.lt _ e).2)
                    have OWN9 := Lib.hid (OWN9.out.alloc (.cells #[.int .i64 1, .string ⟨n.toArray⟩, .string ⟨t.toArray⟩, .string ⟨b.toArray⟩] 79))
                    have Z11 := Lib.hid (show wx1.heap.size < (wx1.alloc (.cells #[.int .i64 1, .string ⟨n.toArray⟩, .string ⟨t.toArray⟩, .string ⟨b.toArray⟩] 79)).heap.size by simp)
                    clear AL B1
                    generalize wx1.alloc (Obj.cells #[.int .i64 1, .string ⟨n.toArray⟩, .string ⟨t.toArray⟩, .string ⟨b.toArray⟩] 79) = wx2 at *
                    generalize wx1.heap.size = p11 at *
                    refine wpAnyH_ready (rs := [12]) (by kernel_rfl) (by simp) ?_
                    refine reg_each (o := _) rfl (fun K hK => ?_) ?_
                    · skip
                      refine step_append_D rfl (.tmp 65) (.tmp 67) rfl w4.heap.size v9 _ x.T [(⟨⟨n.toArray⟩, ⟨t.toArray⟩, sv, b, false, false⟩ : Stp)] rfl rfl OWN9.out P11.out (by simp; omega) B2.out.size ?_
                      intro v12 wx3 own12 gr12 at12
                      have B3 := Lib.hid (below_grown' B2.out gr12 (fun k e => (OWN9.out.lt k e).1) B2.out.size)
                      refine hK.out _ _ ?_ (fun hHeld2 => ?_)
                      · exact HS0.out.of B3.out
                      clear hK K hHeld
                      have hHeld := hHeld2
                      clear hHeld2
                      (try simp only [Act.put, List.setIfInBounds_toArray, List.set_cons_zero, List.set_cons_succ])
                      have HF3 := Lib.hid (HF3.out.app OWN9.out gr12)
                      have OWN12 := Lib.hid own12
                      obtain ⟨A5, l5, k5, rfl⟩ : ∃ A l c, v12 = .slice A l c := by obtain ⟨A, c, e⟩ := RdD.owned own12; exact ⟨_, _, _, e⟩
                      clear own12 gr12 at12 OWN9 P11 B2
                      refine reg_take (i := 13) (oi := _) (v := ?_) rfl (by kernel_rfl) (by kernel_rfl) (by kernel_rfl) (fun _ _ _ h => h) (by rfl) ?_ (by assumption) ?_
                      rotate_left
                      · intro w hSw; (try dsimp only at hSw); have d0 : w.cell? ⟨p, 0, none⟩ = some (.slice A1 x.now.length k1) := (by rw [hSw.1.cell]; rfl); have d1 : w.cell? ⟨p, 1, none⟩ = some (.slice A2 x.sure.length k2) := (by rw [hSw.1.cell]; rfl); have d2 : w.cell? ⟨p, 2, none⟩ = some (.slice A3 x.T.length k3) := (by rw [hSw.1.cell]; rfl); have s0 : w.cell? ⟨p + 1, 0, none⟩ = some (.int .i64 1) := (by rw [hSw.2.cell]; rfl); have s1 : w.cell? ⟨p + 1, 1, none⟩ = some (.string ⟨n.toArray⟩) := (by rw [hSw.2.cell]; rfl); have s2 : w.cell? ⟨p + 1, 2, none⟩ = some (.string ⟨t.toArray⟩) := (by rw [hSw.2.cell]; rfl); have s3 : w.cell? ⟨p + 1, 3, none⟩ = some (.string ⟨b.toArray⟩) := (by rw [hSw.2.cell]; rfl); have zD := hSw.1.lt; have zS := hSw.2.lt; go_simp; try with_reducible rfl
                      (try simp only [Act.put, List.setIfInBounds_toArray, List.set_cons_zero, List.set_cons_succ])
                      refine wpAnyH_ready (rs := [14]) (by kernel_rfl) (by simp) ?_
                      refine reg_each (o := _) rfl (fun K hK => ?_) ?_
                      · skip
                        have kZ0 := HWZ.out.below B3.out
                        have y0 : wx3.cell? ⟨p + 2, 0, none⟩ = some (.slice none 0 0) := by rw [kZ0.cell]; rfl
                        have y1 : wx3.cell? ⟨p + 2, 1, none⟩ = some (.slice none 0 0) := by rw [kZ0.cell]; rfl
                        have y2 : wx3.cell? ⟨p + 2, 2, none⟩ = some (.slice none 0 0) := by rw [kZ0.cell]; rfl
                        have f0 := kZ0.frozen 0
                        have f1 := kZ0.frozen 1
                        have f2 := kZ0.frozen 2
                        have zZ := kZ0.lt
                        have hk4 : k4 = k4 := rfl
                        go_simp
                        refine hK.out _ _ ?_ (fun hHeld2 => ?_)
                        · exact ((hHeld.set 0 _).set 1 _).set 2 _
                        clear hK K hHeld
                        have hHeld := hHeld2
                        clear hHeld2
                        (try simp only [Act.put, List.setIfInBounds_toArray, List.set_cons_zero, List.set_cons_succ])
                        refine reg_take (i := 15) (oi := _) (v := ?_) rfl (by kernel_rfl) (by kernel_rfl) (by kernel_rfl) (fun _ _ _ h => h) (by rfl) ?_ (by assumption) ?_
                        rotate_left
                        · intro w hSw; (try dsimp only at hSw); have d0 : w.cell? ⟨p, 0, none⟩ = some (.slice A1 x.now.length k1) := (by rw [hSw.1.cell]; rfl); have d1 : w.cell? ⟨p, 1, none⟩ = some (.slice A2 x.sure.length k2) := (by rw [hSw.1.cell]; rfl); have d2 : w.cell? ⟨p, 2, none⟩ = some (.slice A3 x.T.length k3) := (by rw [hSw.1.cell]; rfl); have s0 : w.cell? ⟨p + 1, 0, none⟩ = some (.int .i64 1) := (by rw [hSw.2.cell]; rfl); have s1 : w.cell? ⟨p + 1, 1, none⟩ = some (.string ⟨n.toArray⟩) := (by rw [hSw.2.cell]; rfl); have s2 : w.cell? ⟨p + 1, 2, none⟩ = some (.string ⟨t.toArray⟩) := (by rw [hSw.2.cell]; rfl); have s3 : w.cell? ⟨p + 1, 3, none⟩ = some (.string ⟨b.toArray⟩) := (by rw [hSw.2.cell]; rfl); have zD := hSw.1.lt; have zS := hSw.2.lt; go_simp; try with_reducible rfl
                        (try simp only [Act.put, List.setIfInBounds_toArray, List.set_cons_zero, List.set_cons_succ])
                        refine wpAnyH_done (by kernel_rfl) ?_ _
                        refine NoPanic.normal ?_
                        clear hHeld y0 y1 y2 f0 f1 f2 zZ
                        go_wp2_with (fail)
                        have kZ1 := kZ0.put 0 (.slice A4 l4 k4) rfl
                        have kZ2 := kZ1.put 1 (.slice A2 x.sure.length k2) rfl
                        have kZ3 := kZ2.put 2 (.slice A5 l5 k5) rfl
                        have KK := (KeptD.set kZ0 0 (.slice A4 l4 k4)).trans ((KeptD.set kZ1 1 (.slice A2 x.sure.length k2)).trans (KeptD.set kZ2 2 (.slice A5 l5 k5)))
                        rw [HC.out, HXX.out]
                        refine bodyPost_end (results_ct_row rfl _ _ (p + 2) _ _ _ _ rfl kZ3) rfl ⟨_, rfl, ⟨_, _, _, rfl, HF3.out.keptD KK, (HW2.out.kept (KeptY.below B3.out)).keptD KK, (RdD.of_owns OWN12.out).keptD KK⟩, ?_⟩
                        exact below_set3 (HWB.out.trans (B3.out.mono HWB.out.size)) (by rw [HP.out]; omega)
                      exact AllReadyH.nil
                    exact AllReadyH.nil
                  exact AllReadyH.nil
                refine reg_each (o := _) rfl (fun K hK => ?_) ?_
                · skip
                  go_simp
                  have B1 := Lib.hid (B0.out.alloc B0.out.size (.cells #[.int .i64 1, .string ⟨n.toArray⟩, .string ⟨t.toArray⟩, .string ⟨b.toArray⟩] 79))
                  refine hK.out _ _ ?_ (fun hHeld2 => ?_)
                  · exact HS0.out.of B1.out
                  clear hK K hHeld
                  have hHeld := hHeld2
                  clear hHeld2
                  (try simp only [Act.put, List.setIfInBounds_toArray, List.set_cons_zero, List.set_cons_succ])
                  have P11 := Lib.hid (show RdD (wx0.alloc (.cells #[.int .i64 1, .string ⟨n.toArray⟩, .string ⟨t.toArray⟩, .string ⟨b.toArray⟩] 79)) (.slice (some ⟨wx0.heap.size, 0, none⟩) 1 1) [(⟨⟨n.toArray⟩, ⟨t.toArray⟩, sv, b, false, false⟩ : Stp)] from RdD.one wx0 (⟨⟨n.toArray⟩, ⟨t.toArray⟩, sv, b, false, false⟩ : Stp))
                  have AL := KeptY.below ((Below.refl wx0.heap.size wx0).alloc (Nat.le_refl _) (.cells #[.int .i64 1, .string ⟨n.toArray⟩, .string ⟨t.toArray⟩, .string ⟨b.toArray⟩] 79))
                  have HF3 := Lib.hid (HF3.out.kept AL)
                  have Z11 := Lib.hid (show wx0.heap.size < (wx0.alloc (.cells #[.int .i64 1, .string ⟨n.toArray⟩, .string ⟨t.toArray⟩, .string ⟨b.toArray⟩] 79)).heap.size by simp)
                  clear AL B0
                  generalize wx0.alloc (Obj.cells #[.int .i64 1, .string ⟨n.toArray⟩, .string ⟨t.toArray⟩, .string ⟨b.toArray⟩] 79) = wx1 at *
                  generalize wx0.heap.size = p11 at *
                  refine wpAnyH_ready (rs := [9]) (by kernel_rfl) (by simp) ?_
                  refine reg_each (o := _) rfl (fun K hK => ?_) ?_
                  · skip
                    refine step_append_D rfl (.tmp 62) (.tmp 64) rfl w4.heap.size (.slice none 0 0) _ [] x.T rfl rfl (World.ownsRow_nil _ _ _ _) (HW3.out.kept (KeptY.below B1.out)) (by simp; omega) B1.out.size ?_
                    intro v9 wx2 own9 gr9 at9
                    have hb9 := grown_none gr9 rfl
                    have B2 := Lib.hid (below_trans B1.out hb9)
                    refine hK.out _ _ ?_ (fun hHeld2 => ?_)
                    · exact HS0.out.of B2.out
                    clear hK K hHeld
                    have hHeld := hHeld2
                    clear hHeld2
                    (try simp only [Act.put, List.setIfInBounds_toArray, List.set_cons_zero, List.set_cons_succ])
                    have OWN9 := Lib.hid (show wx2.ownsRow w4.heap.size 79 4 v9 x.T.length (cellsD x.T) from own9)
                    have HF3 := Lib.hid (HF3.out.kept (KeptY.below hb9))
                    have P11 := Lib.hid (P11.out.kept (KeptY.below hb9))
                    have N11 := Lib.hid (show v9.ownBlock ≠ some p11 from fun e => by
                      rcases at9 with h | h
                      · rw [h] at e; cases e
                      · rw [h] at e; have := Option.some.inj e; have := Z11.out; omega)
                    clear own9 gr9 at9 hb9 B1
                    refine wpAnyH_ready (rs := [12]) (by kernel_rfl) (by simp) ?_
                    refine reg_each (o := _) rfl (fun K hK => ?_) ?_
                    · skip
                      refine step_append_D rfl (.tmp 65) (.tmp 67) rfl w4.heap.size v9 _ x.T [(⟨⟨n.toArray⟩, ⟨t.toArray⟩, sv, b, false, false⟩ : Stp)] rfl rfl OWN9.out P11.out (by simp; omega) B2.out.size ?_
                      intro v12 wx3 own12 gr12 at12
                      have B3 := Lib.hid (below_grown' B2.out gr12 (fun k e => (OWN9.out.lt k e).1) B2.out.size)
                      refine hK.out _ _ ?_ (fun hHeld2 => ?_)
                      · exact HS0.out.of B3.out
                      clear hK K hHeld
                      have hHeld := hHeld2
                      clear hHeld2
                      (try simp only [Act.put, List.setIfInBounds_toArray, List.set_cons_zero, List.set_cons_succ])
                      have HF3 := Lib.hid (HF3.out.app OWN9.out gr12)
                      have OWN12 := Lib.hid own12
                      obtain ⟨A5, l5, k5, rfl⟩ : ∃ A l c, v12 = .slice A l c := by obtain ⟨A, c, e⟩ := RdD.owned own12; exact ⟨_, _, _, e⟩
                      clear own12 gr12 at12 OWN9 P11 B2
                      refine reg_take (i := 13) (oi := _) (v := ?_) rfl (by kernel_rfl) (by kernel_rfl) (by kernel_rfl) (fun _ _ _ h => h) (by rfl) ?_ (by assumption) ?_
                      rotate_left
                      · intro w hSw; (try dsimp only at hSw); have d0 : w.cell? ⟨p, 0, none⟩ = some (.slice A1 x.now.length k1) := (by rw [hSw.1.cell]; rfl); have d1 : w.cell? ⟨p, 1, none⟩ = some (.slice A2 x.sure.length k2) := (by rw [hSw.1.cell]; rfl); have d2 : w.cell? ⟨p, 2, none⟩ = some (.slice A3 x.T.length k3) := (by rw [hSw.1.cell]; rfl); have s0 : w.cell? ⟨p + 1, 0, none⟩ = some (.int .i64 1) := (by rw [hSw.2.cell]; rfl); have s1 : w.cell? ⟨p + 1, 1, none⟩ = some (.string ⟨n.toArray⟩) := (by rw [hSw.2.cell]; rfl); have s2 : w.cell? ⟨p + 1, 2, none⟩ = some (.string ⟨t.toArray⟩) := (by rw [hSw.2.cell]; rfl); have s3 : w.cell? ⟨p + 1, 3, none⟩ = some (.string ⟨b.toArray⟩) := (by rw [hSw.2.cell]; rfl); have zD := hSw.1.lt; have zS := hSw.2.lt; go_simp; try with_reducible rfl
                      (try simp only [Act.put, List.setIfInBounds_toArray, List.set_cons_zero, List.set_cons_succ])
                      refine wpAnyH_ready (rs := [14]) (by kernel_rfl) (by simp) ?_
                      refine reg_each (o := _) rfl (fun K hK => ?_) ?_
                      · skip
                        have kZ0 := HWZ.out.below B3.out
                        have y0 : wx3.cell? ⟨p + 2, 0, none⟩ = some (.slice none 0 0) := by rw [kZ0.cell]; rfl
                        have y1 : wx3.cell? ⟨p + 2, 1, none⟩ = some (.slice none 0 0) := by rw [kZ0.cell]; rfl
                        have y2 : wx3.cell? ⟨p + 2, 2, none⟩ = some (.slice none 0 0) := by rw [kZ0.cell]; rfl
                        have f0 := kZ0.frozen 0
                        have f1 := kZ0.frozen 1
                        have f2 := kZ0.frozen 2
                        have zZ := kZ0.lt
                        have hk4 : k4 = k4 := rfl
                        go_simp
                        refine hK.out _ _ ?_ (fun hHeld2 => ?_)
                        · exact ((hHeld.set 0 _).set 1 _).set 2 _
                        clear hK K hHeld
                        have hHeld := hHeld2
                        clear hHeld2
                        (try simp only [Act.put, List.setIfInBounds_toArray, List.set_cons_zero, List.set_cons_succ])
                        refine reg_take (i := 15) (oi := _) (v := ?_) rfl (by kernel_rfl) (by kernel_rfl) (by kernel_rfl) (fun _ _ _ h => h) (by rfl) ?_ (by assumption) ?_
                        rotate_left
                        · intro w hSw; (try dsimp only at hSw); have d0 : w.cell? ⟨p, 0, none⟩ = some (.slice A1 x.now.length k1) := (by rw [hSw.1.cell]; rfl); have d1 : w.cell? ⟨p, 1, none⟩ = some (.slice A2 x.sure.length k2) := (by rw [hSw.1.cell]; rfl); have d2 : w.cell? ⟨p, 2, none⟩ = some (.slice A3 x.T.length k3) := (by rw [hSw.1.cell]; rfl); have s0 : w.cell? ⟨p + 1, 0, none⟩ = some (.int .i64 1) := (by rw [hSw.2.cell]; rfl); have s1 : w.cell? ⟨p + 1, 1, none⟩ = some (.string ⟨n.toArray⟩) := (by rw [hSw.2.cell]; rfl); have s2 : w.cell? ⟨p + 1, 2, none⟩ = some (.string ⟨t.toArray⟩) := (by rw [hSw.2.cell]; rfl); have s3 : w.cell? ⟨p + 1, 3, none⟩ = some (.string ⟨b.toArray⟩) := (by rw [hSw.2.cell]; rfl); have zD := hSw.1.lt; have zS := hSw.2.lt; go_simp; try with_reducible rfl
                        (try simp only [Act.put, List.setIfInBounds_toArray, List.set_cons_zero, List.set_cons_succ])
                        refine wpAnyH_done (by kernel_rfl) ?_ _
                        refine NoPanic.normal ?_
                        clear hHeld y0 y1 y2 f0 f1 f2 zZ
                        go_wp2_with (fail)
                        have kZ1 := kZ0.put 0 (.slice A4 l4 k4) rfl
                        have kZ2 := kZ1.put 1 (.slice A2 x.sure.length k2) rfl
                        have kZ3 := kZ2.put 2 (.slice A5 l5 k5) rfl
                        have KK := (KeptD.set kZ0 0 (.slice A4 l4 k4)).trans ((KeptD.set kZ1 1 (.slice A2 x.sure.length k2)).trans (KeptD.set kZ2 2 (.slice A5 l5 k5)))
                        rw [HC.out, HXX.out]
                        refine bodyPost_end (results_ct_row rfl _ _ (p + 2) _ _ _ _ rfl kZ3) rfl ⟨_, rfl, ⟨_, _, _, rfl, HF3.out.keptD KK, (HW2.out.kept (KeptY.below B3.out)).keptD KK, (RdD.of_owns OWN12.out).keptD KK⟩, ?_⟩
                        exact below_set3 (HWB.out.trans (B3.out.mono HWB.out.size)) (by rw [HP.out]; omega)
                      exact AllReadyH.nil
                    exact AllReadyH.nil
                  exact AllReadyH.nil
                exact AllReadyH.nil
              refine reg_each (o := _) rfl (fun K hK => ?_) ?_
              · skip
                go_simp
                have B0 := Lib.hid (BD.out.alloc BD.out.size (.cells #[.int .i64 1, .string ⟨n.toArray⟩, .string ⟨t.toArray⟩, .string ⟨b.toArray⟩] 79))
                refine hK.out _ _ ?_ (fun hHeld2 => ?_)
                · exact HS0.out.of B0.out
                clear hK K hHeld
                have hHeld := hHeld2
                clear hHeld2
                (try simp only [Act.put, List.setIfInBounds_toArray, List.set_cons_zero, List.set_cons_succ])
                have P11 := Lib.hid (show RdD (wd.alloc (.cells #[.int .i64 1, .string ⟨n.toArray⟩, .string ⟨t.toArray⟩, .string ⟨b.toArray⟩] 79)) (.slice (some ⟨wd.heap.size, 0, none⟩) 1 1) [(⟨⟨n.toArray⟩, ⟨t.toArray⟩, sv, b, false, false⟩ : Stp)] from RdD.one wd (⟨⟨n.toArray⟩, ⟨t.toArray⟩, sv, b, false, false⟩ : Stp))
                have AL := KeptY.below ((Below.refl wd.heap.size wd).alloc (Nat.le_refl _) (.cells #[.int .i64 1, .string ⟨n.toArray⟩, .string ⟨t.toArray⟩, .string ⟨b.toArray⟩] 79))
                have Z11 := Lib.hid (show wd.heap.size < (wd.alloc (.cells #[.int .i64 1, .string ⟨n.toArray⟩, .string ⟨t.toArray⟩, .string ⟨b.toArray⟩] 79)).heap.size by simp)
                clear AL BD
                generalize wd.alloc (Obj.cells #[.int .i64 1, .string ⟨n.toArray⟩, .string ⟨t.toArray⟩, .string ⟨b.toArray⟩] 79) = wx0 at *
                generalize wd.heap.size = p11 at *
                refine wpAnyH_ready (rs := [3]) (by kernel_rfl) (by simp) ?_
                refine reg_each (o := _) rfl (fun K hK => ?_) ?_
                · skip
                  go_simp
                  refine (DO.out _ B0.out).mono ?_
                  rintro q wx1 ⟨v3, rfl, hr3, hb3⟩
                  have B1 := Lib.hid (below_trans B0.out hb3)
                  have HR3 := Lib.hid hr3
                  have HB3 := Lib.hid hb3
                  clear hr3 hb3
                  go_wp2_with (fail)
                  refine hK.out _ _ ?_ (fun hHeld2 => ?_)
                  · exact HS0.out.of B1.out
                  clear hK K hHeld
                  have hHeld := hHeld2
                  clear hHeld2
                  (try simp only [Act.put, List.setIfInBounds_toArray, List.set_cons_zero, List.set_cons_succ])
                  have Z11 := Lib.hid (Nat.lt_of_lt_of_le Z11.out HB3.out.size)
                  obtain ⟨A4, l4, k4, rfl⟩ : ∃ A l c, v3 = .slice A l c := by obtain ⟨A, c, e⟩ := RdF.owned HR3.out; exact ⟨_, _, _, e⟩
                  have HF3 := Lib.hid (RdF.of_owns HR3.out)
                  have P11 := Lib.hid (P11.out.kept (KeptY.below HB3.out))
                  clear HR3 HB3 B0
                  refine wpAnyH_ready (rs := [9]) (by kernel_rfl) (by simp) ?_
                  refine reg_each (o := _) rfl (fun K hK => ?_) ?_
                  · skip
                    refine step_append_D rfl (.tmp 62) (.tmp 64) rfl w4.heap.size (.slice none 0 0) _ [] x.T rfl rfl (World.ownsRow_nil _ _ _ _) (HW3.out.kept (KeptY.below B1.out)) (by simp; omega) B1.out.size ?_
                    intro v9 wx2 own9 gr9 at9
                    have hb9 := grown_none gr9 rfl
                    have B2 := Lib.hid (below_trans B1.out hb9)
                    refine hK.out _ _ ?_ (fun hHeld2 => ?_)
                    · exact HS0.out.of B2.out
                    clear hK K hHeld
                    have hHeld := hHeld2
                    clear hHeld2
                    (try simp only [Act.put, List.setIfInBounds_toArray, List.set_cons_zero, List.set_cons_succ])
                    have OWN9 := Lib.hid (show wx2.ownsRow w4.heap.size 79 4 v9 x.T.length (cellsD x.T) from own9)
                    have HF3 := Lib.hid (HF3.out.kept (KeptY.below hb9))
                    have P11 := Lib.hid (P11.out.kept (KeptY.below hb9))
                    have N11 := Lib.hid (show v9.ownBlock ≠ some p11 from fun e => by
                      rcases at9 with h | h
                      · rw [h] at e; cases e
                      · rw [h] at e; have := Option.some.inj e; have := Z11.out; omega)
                    clear own9 gr9 at9 hb9 B1
                    refine wpAnyH_ready (rs := [12]) (by kernel_rfl) (by simp) ?_
                    refine reg_each (o := _) rfl (fun K hK => ?_) ?_
                    · skip
                      refine step_append_D rfl (.tmp 65) (.tmp 67) rfl w4.heap.size v9 _ x.T [(⟨⟨n.toArray⟩, ⟨t.toArray⟩, sv, b, false, false⟩ : Stp)] rfl rfl OWN9.out P11.out (by simp; omega) B2.out.size ?_
                      intro v12 wx3 own12 gr12 at12
                      have B3 := Lib.hid (below_grown' B2.out gr12 (fun k e => (OWN9.out.lt k e).1) B2.out.size)
                      refine hK.out _ _ ?_ (fun hHeld2 => ?_)
                      · exact HS0.out.of B3.out
                      clear hK K hHeld
                      have hHeld := hHeld2
                      clear hHeld2
                      (try simp only [Act.put, List.setIfInBounds_toArray, List.set_cons_zero, List.set_cons_succ])
                      have HF3 := Lib.hid (HF3.out.app OWN9.out gr12)
                      have OWN12 := Lib.hid own12
                      obtain ⟨A5, l5, k5, rfl⟩ : ∃ A l c, v12 = .slice A l c := by obtain ⟨A, c, e⟩ := RdD.owned own12; exact ⟨_, _, _, e⟩
                      clear own12 gr12 at12 OWN9 P11 B2
                      refine reg_take (i := 13) (oi := _) (v := ?_) rfl (by kernel_rfl) (by kernel_rfl) (by kernel_rfl) (fun _ _ _ h => h) (by rfl) ?_ (by assumption) ?_
                      rotate_left
                      · intro w hSw; (try dsimp only at hSw); have d0 : w.cell? ⟨p, 0, none⟩ = some (.slice A1 x.now.length k1) := (by rw [hSw.1.cell]; rfl); have d1 : w.cell? ⟨p, 1, none⟩ = some (.slice A2 x.sure.length k2) := (by rw [hSw.1.cell]; rfl); have d2 : w.cell? ⟨p, 2, none⟩ = some (.slice A3 x.T.length k3) := (by rw [hSw.1.cell]; rfl); have s0 : w.cell? ⟨p + 1, 0, none⟩ = some (.int .i64 1) := (by rw [hSw.2.cell]; rfl); have s1 : w.cell? ⟨p + 1, 1, none⟩ = some (.string ⟨n.toArray⟩) := (by rw [hSw.2.cell]; rfl); have s2 : w.cell? ⟨p + 1, 2, none⟩ = some (.string ⟨t.toArray⟩) := (by rw [hSw.2.cell]; rfl); have s3 : w.cell? ⟨p + 1, 3, none⟩ = some (.string ⟨b.toArray⟩) := (by rw [hSw.2.cell]; rfl); have zD := hSw.1.lt; have zS := hSw.2.lt; go_simp; try with_reducible rfl
                      (try simp only [Act.put, List.setIfInBounds_toArray, List.set_cons_zero, List.set_cons_succ])
                      refine wpAnyH_ready (rs := [14]) (by kernel_rfl) (by simp) ?_
                      refine reg_each (o := _) rfl (fun K hK => ?_) ?_
                      · skip
                        have kZ0 := HWZ.out.below B3.out
                        have y0 : wx3.cell? ⟨p + 2, 0, none⟩ = some (.slice none 0 0) := by rw [kZ0.cell]; rfl
                        have y1 : wx3.cell? ⟨p + 2, 1, none⟩ = some (.slice none 0 0) := by rw [kZ0.cell]; rfl
                        have y2 : wx3.cell? ⟨p + 2, 2, none⟩ = some (.slice none 0 0) := by rw [kZ0.cell]; rfl
                        have f0 := kZ0.frozen 0
                        have f1 := kZ0.frozen 1
                        have f2 := kZ0.frozen 2
                        have zZ := kZ0.lt
                        have hk4 : k4 = k4 := rfl
                        go_simp
                        refine hK.out _ _ ?_ (fun hHeld2 => ?_)
                        · exact ((hHeld.set 0 _).set 1 _).set 2 _
                        clear hK K hHeld
                        have hHeld := hHeld2
                        clear hHeld2
                        (try simp only [Act.put, List.setIfInBounds_toArray, List.set_cons_zero, List.set_cons_succ])
                        refine reg_take (i := 15) (oi := _) (v := ?_) rfl (by kernel_rfl) (by kernel_rfl) (by kernel_rfl) (fun _ _ _ h => h) (by rfl) ?_ (by assumption) ?_
                        rotate_left
                        · intro w hSw; (try dsimp only at hSw); have d0 : w.cell? ⟨p, 0, none⟩ = some (.slice A1 x.now.length k1) := (by rw [hSw.1.cell]; rfl); have d1 : w.cell? ⟨p, 1, none⟩ = some (.slice A2 x.sure.length k2) := (by rw [hSw.1.cell]; rfl); have d2 : w.cell? ⟨p, 2, none⟩ = some (.slice A3 x.T.length k3) := (by rw [hSw.1.cell]; rfl); have s0 : w.cell? ⟨p + 1, 0, none⟩ = some (.int .i64 1) := (by rw [hSw.2.cell]; rfl); have s1 : w.cell? ⟨p + 1, 1, none⟩ = some (.string ⟨n.toArray⟩) := (by rw [hSw.2.cell]; rfl); have s2 : w.cell? ⟨p + 1, 2, none⟩ = some (.string ⟨t.toArray⟩) := (by rw [hSw.2.cell]; rfl); have s3 : w.cell? ⟨p + 1, 3, none⟩ = some (.string ⟨b.toArray⟩) := (by rw [hSw.2.cell]; rfl); have zD := hSw.1.lt; have zS := hSw.2.lt; go_simp; try with_reducible rfl
                        (try simp only [Act.put, List.setIfInBounds_toArray, List.set_cons_zero, List.set_cons_succ])
                        refine wpAnyH_done (by kernel_rfl) ?_ _
                        refine NoPanic.normal ?_
                        clear hHeld y0 y1 y2 f0 f1 f2 zZ
                        go_wp2_with (fail)
                        have kZ1 := kZ0.put 0 (.slice A4 l4 k4) rfl
                        have kZ2 := kZ1.put 1 (.slice A2 x.sure.length k2) rfl
                        have kZ3 := kZ2.put 2 (.slice A5 l5 k5) rfl
                        have KK := (KeptD.set kZ0 0 (.slice A4 l4 k4)).trans ((KeptD.set kZ1 1 (.slice A2 x.sure.length k2)).trans (KeptD.set kZ2 2 (.slice A5 l5 k5)))
                        rw [HC.out, HXX.out]
                        refine bodyPost_end (results_ct_row rfl _ _ (p + 2) _ _ _ _ rfl kZ3) rfl ⟨_, rfl, ⟨_, _, _, rfl, HF3.out.keptD KK, (HW2.out.kept (KeptY.below B3.out)).keptD KK, (RdD.of_owns OWN12.out).keptD KK⟩, ?_⟩
                        exact below_set3 (HWB.out.trans (B3.out.mono HWB.out.size)) (by rw [HP.out]; omega)
                      exact AllReadyH.nil
                    exact AllReadyH.nil
                  exact AllReadyH.nil
                exact AllReadyH.nil
              exact AllReadyH.nil
end Go.Proofs.YtgocmfjijoibkaaDoor
