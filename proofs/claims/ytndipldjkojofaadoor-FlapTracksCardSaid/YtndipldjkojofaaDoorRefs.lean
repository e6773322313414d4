/- Aid to FlapRuns: Push of any state; the document's Push, Change and Flaps, walked. -/
import Derived.Test.YtndipldjkojofaaDoorAid
import Derived.Deep.AppendLies
import Derived.OwnWalk
import Derived.Laws.AppendOwnNone
import Derived.Deep.QuietTactic
import Derived.BigQuiet
namespace Go.Proofs.YtndipldjkojofaaDoor
open Go.RowKit
theorem away_yes (s : Int) (w : World) (h : s < 0 ∨ 3 < s) : Calls Tryd.prog 12 #[.int .i64 s] w fun e w' => e = .returned (.bool true) ∧ w = w' := by
  have k := away_walk s w
  rw [show (decide (s < 0) || decide (3 < s)) = true by simp; omega] at k
  exact k
set_option maxRecDepth 100000 in
set_option maxHeartbeats 2000000 in
theorem push_bad (x : List Int) (s : Int) (w : World) (hx : okT x) (hs : s < 0 ∨ 3 < s) : Calls Tryd.prog 4 #[.agg (trk x), .int .i64 s] w fun e w' => e = .returned (.agg (trk x)) ∧ Below w.heap.size w w' := by
  have hb := (Blk.new w 24 (trk x)).alloc (.cells (trk []) 24)
  have hb4 := Blk.new1 w (.cells (trk x) 24) 24 (trk [])
  have HC := Lib.hid (fun w => check_ok x w hx)
  have HA := Lib.hid (fun w => away_yes s w hs)
  have B0 := below_al (below_al (Below.refl w.heap.size w) (.cells (trk x) 24)) (.cells (trk []) 24)
  rw [trk_nil] at hb hb4 B0
  clear hs hx
  go_enter Tryd.func4, Tryd.ntmps4
  go_upto_region 1 with (fail)
  generalize (w.alloc (Obj.cells (trk x) 24)).alloc (Obj.cells #[Value.int IntKind.i64 0, Value.int IntKind.i64 0, Value.int IntKind.i64 0, Value.int IntKind.i64 0, Value.int IntKind.i64 0, Value.int IntKind.i64 0, Value.int IntKind.i64 0, Value.int IntKind.i64 0, Value.int IntKind.i64 0, Value.int IntKind.i64 0, Value.int IntKind.i64 0, Value.int IntKind.i64 0, Value.int IntKind.i64 0, Value.int IntKind.i64 0, Value.int IntKind.i64 0, Value.int IntKind.i64 0, Value.int IntKind.i64 0, Value.int IntKind.i64 0, Value.int IntKind.i64 0, Value.int IntKind.i64 0, Value.int IntKind.i64 0, Value.int IntKind.i64 0] 24) = W at *
  generalize hg : w.heap.size = g at *
  unfold Blk at hb
  have HB := Lib.hid hb
  have HB4 := Lib.hid hb4
  clear hb4
  go_wp2_with (first | refine wpList_load_row rfl 24 _ rfl g rfl 24 (trk x) (0, 0) _ HB.out Tryd.underlying24 rfl (trk_info x) ?_)
  refine (HC.out _).mono ?_
  rintro e w1 ⟨rfl, hb1⟩
  have b1 : Blk w1 g 24 (trk x) := Blk.below hb hb1
  have b4 := HB4.out.below hb1
  have B1 : Below g w w1 := B0.trans (hb1.mono (by have := B0.size; omega))
  clear HB hb hb1 HC HB4 B0
  unfold Blk at b1 b4
  have HB := Lib.hid b1
  have HB4 := Lib.hid b4
  clear b1 b4
  go_wp2_with (fail)
  refine (HA.out _).mono ?_
  rintro e w2 ⟨rfl, rfl⟩
  go_wp2_with (first | refine wpList_load_row rfl 24 _ rfl g rfl 24 (trk x) (0, 0) _ HB.out Tryd.underlying24 rfl (trk_info x) ?_ | refine wpList_store_row rfl 24 _ _ rfl (g + 1) (trk x) rfl rfl 24 _ HB4.out (trk_info x) (by rw [trk_size]; rfl) (trk_one x) ?_)
  have b5 : Blk (w1.setRow (g + 1) (trk x)) (g + 1) 24 (trk x) := blk_setRow HB4.out
  refine bodyPost_ret (v := .agg (trk x)) (res_cell (p := 4) rfl _ _ (g + 1) 24 _ _ rfl b5 Tryd.underlying24 rfl (trk_info x)) rfl ⟨rfl, ?_⟩
  rw [hg]
  exact below_setRow B1 (by omega) _
def pushA (x : List Int) (s : Int) : List Int := if s < 0 ∨ 3 < s then x else pushF x s
theorem push_any (x : List Int) (s : Int) (w : World) (hx : okT x) : Calls Tryd.prog 4 #[.agg (trk x), .int .i64 s] w fun e w' => e = .returned (.agg (trk (pushA x s))) ∧ Below w.heap.size w w' := by
  unfold pushA
  split
  · rename_i h; exact push_bad x s w hx h
  · rename_i h; exact push_walk x s w hx (by omega) (by omega)
theorem okT_pushA {x : List Int} {s : Int} (hx : okT x) : okT (pushA x s) := by
  unfold pushA
  split
  · exact hx
  · exact okT_push hx (by omega) (by omega)
theorem info3 : (Tryd.prog.info? 3).map (fun i => (i.zero, i.size, i.bytes)) = some (some (.int .i64 0), 1, 8) := by kernel_rfl
theorem slot_add (g j : Nat) : (⟨g, 0, none⟩ : Addr).add j = ⟨g, j, none⟩ := by unfold Addr.add; split <;> simp_all
def FarB (B : Nat) (v : Value) : Prop := ∀ ad n c, v = .slice (some ad) n c → B ≤ ad.block
/-- A slice that is nil and empty, or holds ints. -/
def NInts (w : World) (v : Value) (xs : List Int) : Prop := (v = .slice none 0 0 ∧ xs = []) ∨ ∃ ad cap, v = .slice (some ad) xs.length cap ∧ 0 < xs.length ∧ Ints w (some ad) xs.length xs
theorem own_le {w : World} {B g m c : Nat} {ys : List Value} (h : w.ownsRow B 3 1 (.slice (some ⟨g, 0, none⟩) m c) m ys) : m ≤ c := by
  rcases h.2 with ⟨h, _⟩ | ⟨g', c', cur, e, _, _, hc, _⟩
  · cases h
  · cases e; exact hc
theorem own_ints {w : World} {B g m c : Nat} {ys : List Int} (h : w.ownsRow B 3 1 (.slice (some ⟨g, 0, none⟩) m c) m (ys.map fun y => Value.int .i64 y)) (hm : m ≤ 22) (hy : ∀ j, 0 ≤ ys.getD j 0 ∧ ys.getD j 0 ≤ 3) :
    Ints w (some ⟨g, 0, none⟩) m ys ∧ Ints w (some ⟨g, 1, none⟩) (m - 1) (ys.drop 1) := by
  have hl : ys.length = m := by have := h.1; simpa using this
  have hc := h.cells (g := g) rfl
  have hlt := (h.lt g rfl).2
  have key : ∀ j, j < m → w.cell? ⟨g, j, none⟩ = some (.int .i64 (ys.getD j 0)) := by
    intro j hj
    have := hc j (.int .i64 (ys.getD j 0)) (by rw [List.getElem?_map, List.getElem?_eq_getElem (by omega)]; simp [List.getD, show j < ys.length by omega])
    rwa [slot_add] at this
  refine ⟨⟨hl, by omega, fun j _ => by have := hy j; omega, fun _ => ⟨_, rfl, hlt, fun j hj => by rw [slot_add]; exact key j hj⟩⟩, ⟨by simp [hl], by omega, fun j _ => ?_, fun _ => ⟨_, rfl, hlt, fun j hj => ?_⟩⟩⟩
  · rw [show (ys.drop 1).getD j 0 = ys.getD (1 + j) 0 by simp [List.getD, Nat.add_comm]]
    have := hy (1 + j); omega
  · rw [add_one, key _ (by omega)]; simp [List.getD, Nat.add_comm]
set_option maxRecDepth 100000 in
set_option maxHeartbeats 2000000 in
theorem rpush_some (ad : Addr) (cap : Nat) (x : List Int) (s : Int) (w : World) (hi : Ints w (some ad) x.length x) (hx : okT x) (h0 : 0 < x.length) (s0 : 0 ≤ s) (s3 : s ≤ 3) : Calls Tryd.prog 10 #[.slice (some ad) x.length cap, .int .i64 s] w fun e w' => (∃ v, e = .returned v ∧ NInts w' v (pushF x s) ∧ FarB w.heap.size v) ∧ Below w.heap.size w w' := by
  have hq := hi.2.1
  have hl := hx.1
  have HX := Lib.hid (okT_mem hx)
  clear hx
  have hc : ∀ j u, (x.map (fun y => Value.int .i64 y))[j]? = some u → w.cell? (ad.add j) = some u := by
    intro j u hu
    rw [List.getElem?_map] at hu
    obtain ⟨y, hy, rfl⟩ := Option.map_eq_some_iff.1 hu
    obtain ⟨ad', e, _, h⟩ := hi.2.2.2 h0
    cases e
    have hj : j < x.length := (List.getElem?_eq_some_iff.1 hy).1
    rw [h j hj, List.getD_eq_getElem?_getD, hy]; rfl
  have HC := Lib.hid hc
  have HI := Lib.hid hi
  clear hc hi
  obtain ⟨i0, hi0, hz0, hz1, hz2⟩ := info_parts info3
  go_enter Tryd.func10, Tryd.ntmps10
  generalize hn : x.length = n at *
  go_wp2_with (first | (at_builtin; refine wpList_append_lies _ rfl (.tmp 13) (.tmp 14) 33 rfl w.heap.size 3 i0 (.int .i64 0) 1 8 Tryd.underlying33 hi0 hz0 hz1 hz2 rfl (by decide) (.slice none 0 0) 0 [] rfl (World.ownsRow_nil _ _ _ _) ad n cap (x.map (fun y => Value.int .i64 y)) rfl (by simp [hn]) HC.out (by simp [Value.oneCell']) h0 (by simp only [maxLen]; omega) (by omega) (Nat.le_refl _) _ rfl ?_; intro g1 c1 w1 own1 gr1 at1 lt1; simp only [Nat.zero_add, List.nil_append] at own1) | (at_builtin; refine wpList_append_lies _ rfl (.tmp 15) (.tmp 17) 33 rfl w.heap.size 3 i0 (.int .i64 0) 1 8 Tryd.underlying33 hi0 hz0 hz1 hz2 rfl (by decide) (.slice (some ⟨g1, 0, none⟩) n c1) n (x.map (fun y => Value.int .i64 y)) rfl (own1.alloc _) ⟨w1.heap.size, 0, none⟩ 1 1 [.int .i64 s] rfl rfl (World.news_of_block (heap_alloc_new w1 _)) (by simp [Value.oneCell']) (by omega) (by simp only [maxLen]; omega) (by omega) (by have := gr1.size; simp; omega) _ rfl ?_; intro g2 c2 w2 own2 gr2 at2 lt2; have hcc := own_le own2))
  all_goals
    have bel : Below w.heap.size w w2 := ((Below.refl w.heap.size w).grown gr1 (Nat.le_refl _) (fun k hk => by cases hk)).alloc gr1.size _ |>.grown gr2 (by have := gr1.size; simp; omega) (fun k hk => by
      have hk' : k = g1 := by simpa [Value.ownBlock] using hk.symm
      rw [hk']; exact (own1.lt g1 rfl).1)
    have BE := Lib.hid bel
    have own3 : w2.ownsRow w.heap.size 3 1 (.slice (some ⟨g2, 0, none⟩) (n + 1) c2) (n + 1) ((x ++ [s]).map fun y => Value.int .i64 y) := by
      rw [List.map_append]; exact own2
    have hr := own_ints own3 (by omega) (getD_ok fun v hv => by
      rcases List.mem_append.1 hv with h | h
      · exact HX.out v h
      · rw [List.mem_singleton.1 h]; exact ⟨s0, s3⟩)
    have HR := Lib.hid hr
    have FB := Lib.hid (own2.lt g2 rfl).1
    clear bel own3 hr own1 own2 gr1 gr2 at1 at2 lt1 lt2
    unfold pushF
    rw [hn]
    go_ret
  · have hn21 : n = 21 := by omega
    refine ⟨⟨_, rfl, ?_, fun ad n c h => by cases h; exact FB.out⟩, BE.out⟩
    rw [if_pos hn21]
    have e : (x.drop 1 ++ [s]) = (x ++ [s]).drop 1 := by
      cases x with
      | nil => simp at hn; omega
      | cons a x => rfl
    have el : ((x ++ [s]).drop 1).length = n := by simp [hn]
    rw [e]
    refine Or.inr ⟨_, c2 - 1, by rw [el]; rfl, by rw [el]; exact h0, ?_⟩
    rw [el]; exact HR.out.2
  · have hn20 : ¬ n = 21 := by omega
    refine ⟨⟨_, rfl, ?_, fun ad n c h => by cases h; exact FB.out⟩, BE.out⟩
    rw [if_neg hn20]
    refine Or.inr ⟨_, c2, by rw [List.length_append, hn]; rfl, by simp, ?_⟩
    rw [List.length_append, hn]; exact HR.out.1
set_option maxRecDepth 100000 in
set_option maxHeartbeats 2000000 in
theorem rpush_none (s : Int) (w : World) (s0 : 0 ≤ s) (s3 : s ≤ 3) : Calls Tryd.prog 10 #[.slice none 0 0, .int .i64 s] w fun e w' => (∃ v, e = .returned v ∧ NInts w' v (pushF [] s) ∧ FarB w.heap.size v) ∧ Below w.heap.size w w' := by
  obtain ⟨i0, hi0, hz0, hz1, hz2⟩ := info_parts info3
  go_enter Tryd.func10, Tryd.ntmps10
  go_wp2_with (first | (at_builtin; refine wpList_append_own_none rfl (.tmp 13) (.tmp 14) 33 rfl w.heap.size 3 i0 1 Tryd.underlying33 hi0 (.slice none 0 0) 0 [] rfl (World.ownsRow_nil _ _ _ _) rfl ?_) | (at_builtin; refine wpList_append_lies _ rfl (.tmp 15) (.tmp 17) 33 rfl w.heap.size 3 i0 (.int .i64 0) 1 8 Tryd.underlying33 hi0 hz0 hz1 hz2 rfl (by decide) (.slice none 0 0) 0 [] rfl (World.ownsRow_nil _ _ _ _) ⟨w.heap.size, 0, none⟩ 1 1 [.int .i64 s] rfl rfl (World.news_of_block (heap_alloc_new w _)) (by simp [Value.oneCell']) (by omega) (by simp only [maxLen]; omega) (by omega) (by simp) _ rfl ?_; intro g2 c2 w2 own2 gr2 at2 lt2; simp only [Nat.zero_add, List.nil_append] at own2))
  have bel : Below w.heap.size w w2 := ((Below.refl w.heap.size w).alloc (Nat.le_refl _) _).grown gr2 (by simp) (fun k hk => by cases hk)
  have hr := own_ints (ys := [s]) own2 (by omega) (getD_ok fun v hv => by rw [List.mem_singleton.1 hv]; exact ⟨s0, s3⟩)
  go_ret
  exact ⟨⟨_, rfl, Or.inr ⟨_, c2, rfl, by simp [pushF], hr.1⟩, fun ad n c h => by cases h; exact (own2.lt g2 rfl).1⟩, bel⟩
set_option maxRecDepth 100000 in
theorem rpush_bad (v : Value) (s : Int) (w : World) (hs : s < 0 ∨ 3 < s) : Calls Tryd.prog 10 #[v, .int .i64 s] w fun e w' => e = .returned v ∧ w = w' := by
  rcases hs with h | h
  all_goals
    go_enter Tryd.func10, Tryd.ntmps10
    go_wp2
    go_ret
    exact ⟨rfl, rfl⟩
theorem rpush_any (v : Value) (x : List Int) (s : Int) (w : World) (hv : NInts w v x) (hx : okT x) (B : Nat) (hB : FarB B v) (hle : B ≤ w.heap.size) : Calls Tryd.prog 10 #[v, .int .i64 s] w fun e w' => (∃ v', e = .returned v' ∧ NInts w' v' (pushA x s) ∧ FarB B v') ∧ Below w.heap.size w w' := by
  have far : ∀ v', FarB w.heap.size v' → FarB B v' := fun v' h ad n c e => Nat.le_trans hle (h ad n c e)
  unfold pushA
  split
  · rename_i h
    exact (rpush_bad v s w h).mono fun e w' ⟨he, hw⟩ => ⟨⟨v, he, hw ▸ hv, hB⟩, hw ▸ Below.refl _ _⟩
  · rename_i h
    rcases hv with ⟨rfl, rfl⟩ | ⟨ad, cap, rfl, h0, hi⟩
    · exact (rpush_none s w (by omega) (by omega)).mono fun e w' ⟨⟨v', h1, h2, h3⟩, hb⟩ => ⟨⟨v', h1, h2, far v' h3⟩, hb⟩
    · exact (rpush_some ad cap x s w hi hx h0 (by omega) (by omega)).mono fun e w' ⟨⟨v', h1, h2, h3⟩, hb⟩ => ⟨⟨v', h1, h2, far v' h3⟩, hb⟩
set_option maxRecDepth 100000 in
set_option maxHeartbeats 2000000 in
theorem rchange_some (ad : Addr) (cap : Nat) (x : List Int) (w : World) (hi : Ints w (some ad) x.length x) (hl : x.length ≤ 21) (h0 : 0 < x.length) : Calls Tryd.prog 11 #[.slice (some ad) x.length cap] w fun e w' => e = .returned (.int .i64 (chgF x)) ∧ Below w.heap.size w w' := by
  have BD := Lib.hid (chgS_bd x hl)
  have HI := Lib.hid hi
  clear hi
  go_enter Tryd.func11, Tryd.ntmps11
  go_upto_region 3 with (fail)
  generalize hn : x.length = n at *
  have HN := Lib.hid hn
  clear hn
  go_loopw [4, 3] (fun i s wr => ∃ k : Nat, k + 1 ≤ n ∧ i = .int .i64 ((k : Int) + 1) ∧ s = .int .i64 (chgS x k) ∧ Ints wr (some ad) n x ∧ Below w.heap.size w wr) (fun i _ _ => 22 - (intOf i).toNat)
  case atStart => exact ⟨0, by omega, rfl, rfl, HI.out, Below.refl _ _⟩
  case round =>
    clear HI
    obtain ⟨k, hk, rfl, rfl, hi, hbel⟩ := hrel
    have HI := Lib.hid hi
    have cc := (hi.2.2.2 (by omega))
    clear hi
    by_cases hlt : k + 1 < n
    · have d0 : decide ((k : Int) + 1 < (n : Int)) = true := decide_eq_true (by omega)
      obtain ⟨_, hee, _, hc⟩ := cc
      cases hee
      have e1 : wr.cell? ⟨ad.block, ad.off + (k + 1), none⟩ = some (.int .i64 (x.getD (k + 1) 0)) := by have h := hc (k + 1) hlt; unfold Addr.add at h; rw [if_neg (by omega)] at h; exact h
      have e0 := hc k (by omega)
      clear hc
      obtain ⟨q1, q2⟩ := BD.out k (by omega)
      have hS : chgS x (k + 1) = chgS x k + (if x.getD (k + 1) 0 = x.getD k 0 then 0 else 1140 - 20 * ((n : Int) - 1 - (k + 1))) := by rw [chgS, HN.out]
      have HS := Lib.hid hS
      clear hS
      generalize chgS x k = S at *
      generalize hS' : chgS x (k + 1) = S' at HS
      have HS' := Lib.hid hS'
      clear hS'
      generalize x.getD (k + 1) 0 = u at *
      generalize x.getD k 0 = v at *
      have k0 : (0 : Int) ≤ k := by omega
      have k1 : (k : Int) + 1 < n := by omega
      have k2 : k < n := by omega
      have k3 : (0 : Int) ≤ (k : Int) + 1 := by omega
      go_upto_region 5 with (fail)
      go_quiet (fail)
      clear e0 e1
      by_cases huv : u = v
      · have b : (u != v) = false := by rw [huv]; simp
        have h2 : S' = S := by rw [HS.out, if_pos huv]; omega
        have H2 := Lib.hid h2
        clear h2 huv
        go_wp2
        go_roundw
        case rel => exact ⟨k + 1, by omega, by go_num, by rw [HS'.out, H2.out], HI.out.below (below_drewN (Below.refl _ _) _), below_drewN hbel _⟩
        case measure => simp [intOf]; omega
      · have b : (u != v) = true := bne_iff_ne.2 huv
        have h2 : S' = S + 1140 - 20 * ((n : Int) - 1 - (k + 1)) := by rw [HS.out, if_neg huv]; omega
        have H2 := Lib.hid h2
        have qn : (n : Int) ≤ 21 := by omega
        have hkn : (k : Int) + 1 < n := by omega
        clear h2 huv
        go_wp2
        go_roundw
        case rel => exact ⟨k + 1, by omega, by go_num, by rw [HS'.out, H2.out], HI.out.below (below_drewN (Below.refl _ _) _), below_drewN hbel _⟩
        case measure => simp [intOf]; omega
    · have d0 : decide ((k : Int) + 1 < (n : Int)) = false := decide_eq_false (by omega)
      have hf : chgF x = chgS x k := by unfold chgF; rw [HN.out]; congr 1; omega
      have HF := Lib.hid hf
      clear hf
      go_wp2
      go_ret
      exact ⟨ret_int HF.out.symm, hbel⟩
set_option maxRecDepth 100000 in
theorem rchange_none (w : World) : Calls Tryd.prog 11 #[.slice none 0 0] w fun e w' => e = .returned (.int .i64 (chgF [])) ∧ Below w.heap.size w w' := by
  go_enter Tryd.func11, Tryd.ntmps11
  go_upto_region 3 with (fail)
  go_loopw [4, 3] (fun i s wr => i = .int .i64 1 ∧ s = .int .i64 0 ∧ wr = w) (fun _ _ _ => 0)
  case atStart => exact ⟨rfl, rfl, rfl⟩
  case round =>
    obtain ⟨rfl, rfl, rfl⟩ := hrel
    go_wp2
    go_ret
    exact ⟨rfl, Below.refl _ _⟩
theorem rchange_any (v : Value) (x : List Int) (w : World) (hv : NInts w v x) (hl : x.length ≤ 21) : Calls Tryd.prog 11 #[v] w fun e w' => e = .returned (.int .i64 (chgF x)) ∧ Below w.heap.size w w' := by
  rcases hv with ⟨rfl, rfl⟩ | ⟨ad, cap, rfl, h0, hi⟩
  · exact rchange_none w
  · exact rchange_some ad cap x w hi hl h0
theorem NInts.below {w w1 : World} {v : Value} {x : List Int} (h : NInts w v x) (hb : Below w.heap.size w w1) : NInts w1 v x := by
  rcases h with h | ⟨ad, cap, e, h0, hi⟩
  · exact Or.inl h
  · exact Or.inr ⟨ad, cap, e, h0, hi.below hb⟩
theorem NInts.form {w : World} {v : Value} {x : List Int} (h : NInts w v x) : ∃ A cap, v = .slice A x.length cap := by
  rcases h with ⟨rfl, rfl⟩ | ⟨ad, cap, e, h0, hi⟩
  · exact ⟨none, 0, rfl⟩
  · exact ⟨_, _, e⟩
theorem NInts.at {w : World} {A : Option Addr} {n cap : Nat} {x : List Int} (h : NInts w (.slice A n cap) x) (h0 : 0 < n) : ∃ ad, A = some ad ∧ Ints w (some ad) x.length x := by
  rcases h with ⟨e, rfl⟩ | ⟨ad, c, e, _, hi⟩
  · cases e; omega
  · cases e; exact ⟨ad, rfl, hi⟩
theorem NInts.setRow {w : World} {v : Value} {x : List Int} (h : NInts w v x) {g : Nat} (hg : ∀ ad n c, v = .slice (some ad) n c → ad.block ≠ g) (cs : Array Value) : NInts (w.setRow g cs) v x := by
  rcases h with h | ⟨ad, cap, e, h0, hi⟩
  · exact Or.inl h
  · refine Or.inr ⟨ad, cap, e, h0, hi.1, hi.2.1, hi.2.2.1, fun hn => ?_⟩
    obtain ⟨ad', e', hl, hc⟩ := hi.2.2.2 hn
    cases e'
    have hne := hg ad _ _ e
    have hs := setRow_other w g ad.block cs hne
    refine ⟨ad, rfl, ?_, fun j hj => ?_⟩
    · rcases Nat.lt_or_ge ad.block (w.setRow g cs).heap.size with h | h
      · exact h
      · rw [Array.getElem?_eq_none h] at hs
        rw [Array.getElem?_eq_getElem hl] at hs; cases hs
    · rw [← hc j hj]
      exact World.cell?_of_block (by rw [add_block]; exact hs)
end Go.Proofs.YtndipldjkojofaaDoor
