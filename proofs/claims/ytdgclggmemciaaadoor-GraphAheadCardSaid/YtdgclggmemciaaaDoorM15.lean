/- The marking of places: what 'marked' computes. -/
import Derived.Test.YtdgclggmemciaaaDoorS15
import Derived.Deep.LoopGhost
namespace Go.Proofs.YtdgclggmemciaaaDoor
open Go.RowKit
set_option linter.unusedSimpArgs false
set_option linter.unusedVariables false
def boolsA (n : Nat) (s : Nat → Bool) : Array Value := ((List.range n).map fun (x : Nat) => Value.bool (s x)).toArray
theorem boolsA_size (n : Nat) (s : Nat → Bool) : (boolsA n s).size = n := by unfold boolsA; simp
theorem boolsA_get {n x : Nat} (s : Nat → Bool) (h : x < n) : (boolsA n s)[x]? = some (.bool (s x)) := by unfold boolsA; simp [h]
theorem boolsA_set (n x : Nat) (s : Nat → Bool) : (boolsA n s).setIfInBounds x (.bool true) = boolsA n (updB s x) := by
  apply Array.ext_getElem?
  intro i
  by_cases hi : i < n
  · rw [boolsA_get _ hi]
    by_cases c : i = x
    · subst c
      rw [Array.getElem?_setIfInBounds_self_of_lt (by rw [boolsA_size]; exact hi), updB_self]
    · rw [Array.getElem?_setIfInBounds_ne (Ne.symm c), boolsA_get _ hi, updB_ne _ c]
  · rw [Array.getElem?_eq_none (by rw [Array.size_setIfInBounds, boolsA_size]; omega), Array.getElem?_eq_none (by rw [boolsA_size]; omega)]
theorem boolsA_made (n : Nat) : madeCells #[Value.bool false] n = boolsA n (fun _ => false) := by
  apply Array.ext_getElem?
  intro i
  by_cases hi : i < n
  · rw [boolsA_get _ hi]; simp [madeCells, hi, Nat.mod_one]
  · rw [Array.getElem?_eq_none (by rw [size_madeCells]; omega), Array.getElem?_eq_none (by rw [boolsA_size]; omega)]
theorem info4 : (Tryd.prog.info? 4).map (fun i => (i.zero, i.size, i.bytes)) = some (some (.bool false), 1, 1) := by kernel_rfl
theorem owns_cut {w : World} {B g n cap m : Nat} {xs : List Value} (h : w.ownsRow B 3 1 (.slice (some ⟨g, 0, none⟩) n cap) n xs) (hm : m ≤ n) : w.ownsRow B 3 1 (.slice (some ⟨g, 0, none⟩) m cap) m (xs.take m) := by
  have hl := h.1
  rcases h.2 with ⟨h', _⟩ | ⟨g', cap', cur, h', hb, hg, hnc, hcm, hcs, htake⟩
  · simp at h'
  · simp only [Value.slice.injEq, Option.some.injEq, Addr.mk.injEq, and_true, true_and] at h'
    obtain ⟨rfl, rfl⟩ := h'
    refine ⟨by rw [List.length_take]; omega, .inr ⟨g, cap, cur, rfl, hb, hg, by omega, hcm, hcs, ?_⟩⟩
    rw [← htake, List.take_take, Nat.mul_one, Nat.mul_one, Nat.min_eq_left (by omega)]
theorem nats_take (l : List Nat) (m : Nat) : (nats l).take m = nats (l.take m) := by unfold nats; rw [List.map_take]
theorem nats_append (l m : List Nat) : nats (l ++ m) = nats l ++ nats m := by unfold nats; simp
theorem nats_one (l : List Nat) : ∀ u ∈ nats l, u.oneCell' = true := by
  intro u hu
  unfold nats at hu
  obtain ⟨x, _, rfl⟩ := List.mem_map.1 hu
  rfl
theorem nats_of {l : List Nat} {j : Nat} {u : Value} (h : (nats l)[j]? = some u) : ∃ x, l[j]? = some x ∧ u = .int .i64 (x : Int) := by
  unfold nats at h
  rw [List.getElem?_map, Option.map_eq_some_iff] at h
  obtain ⟨x, h1, h2⟩ := h
  exact ⟨x, h1, h2.symm⟩
theorem add_lit0 (g o j : Nat) : (⟨g, o, none⟩ : Addr).add j = ⟨g, o + j, none⟩ := by unfold Addr.add; split <;> simp_all
/-- The value that reads as a list, and what append takes of it. -/
theorem Reads.news {w : World} {g o : Nat} {l : List Nat} (hc : ∀ (j x : Nat), l[j]? = some x → w.cell? ⟨g, o + j, none⟩ = some (.int .i64 (x : Int))) : ∀ j u, (nats l)[j]? = some u → w.cell? ((⟨g, o, none⟩ : Addr).add j) = some u := by
  intro j u hu
  obtain ⟨x, h1, rfl⟩ := nats_of hu
  rw [add_lit0]
  exact hc j x h1
set_option maxRecDepth 100000 in
set_option maxHeartbeats 1000000 in
theorem marked_walk (w0 w : World) (so n : Nat) (E : Ways) (S : List Nat) (v : Value) (B0 : Below w0.heap.size w0 w) (hs : Sides w0 so n E) (hv : w.ownsRow w0.heap.size 3 1 v S.length (nats S)) (hS : ∀ x ∈ S, x < n)
    (hE : ∀ e, e ∈ E → e.1 < n ∧ e.2 < n) (hn : n ≤ 4096) (hm : E.length ≤ 1048576) (hSl : S.length ≤ 1048576) :
    Calls Tryd.prog 21 #[.slice (some ⟨so, 0, none⟩) n n, v] w fun x w' => ∃ g seen, x = .returned (.slice (some ⟨g, 0, none⟩) n n) ∧ Blk w' g 4 (boolsA n seen) ∧ (∀ y, seen y = true ↔ ∃ s ∈ S, Rch E s y) ∧ w0.heap.size ≤ g ∧ Below w0.heap.size w0 w' := by
  obtain ⟨i0, hi0, hz0, hz1, hz2⟩ := info_parts info3
  obtain ⟨j0, hj0, hy0, hy1, hy2⟩ := info_parts info4
  have hmk : ∀ W : World, (Instr.makeSlice 44 (.int .i64 (n : Int)) (.int .i64 (n : Int))).run Tryd.prog W = .ok (.slice (some ⟨W.heap.size, 0, none⟩) n n) (W.alloc (.cells (boolsA n (fun _ => false)) 4)) := fun W => by
    have h := run_make (P := Tryd.prog) W 44 4 j0 (.bool false) Tryd.underlying44 hj0 hy0 .i64 .i64 n n (by omega) (Int.le_refl _) (by rw [hy2]; omega) (by omega)
    rw [hy1] at h
    rw [← boolsA_made]
    simpa [Value.cells] using h
  have HMK := hmk w
  have hb := Blk.new w 4 (boolsA n (fun _ => false))
  have B1 := B0.alloc B0.size (.cells (boolsA n (fun _ => false)) 4)
  have hv1 := hv.alloc (.cells (boolsA n (fun _ => false)) 4)
  have hvb : v.ownBlock ≠ some w.heap.size := fun e => by have := (hv.lt _ e).2; omega
  have HS := Lib.hid hs
  have HE := Lib.hid hE
  have BS := B0.size
  clear hmk hs hE hv B0
  go_enter Tryd.func21, Tryd.ntmps21
  go_upto_region 2 with (fail)
  generalize hW : w.alloc (.cells (boolsA n (fun _ => false)) 4) = W at *
  generalize hsb : w.heap.size = sb at *
  clear hW HMK
  have B2 : w0.heap.size ≤ sb := BS
  go_loopg [1] (S.length + E.length) (fun gh wv wr => ∃ (l : List Nat) (seen : Nat → Bool), wr.ownsRow w0.heap.size 3 1 wv l.length (nats l) ∧ wv.ownBlock ≠ some sb ∧ Blk wr sb 4 (boolsA n seen) ∧ MkInv E S seen l ∧ (∀ x ∈ l, x < n) ∧ l.length + openW E seen ≤ gh ∧ gh ≤ S.length + E.length ∧ Below w0.heap.size w0 wr)
  case atStart => exact ⟨S, _, hv1, hvb, hb, MkInv.init E S, hS, by rw [openW_init]; exact Nat.le_refl _, Nat.le_refl _, B1⟩
  case round =>
    obtain ⟨l, seen, hv, hvb, hb, hI, hln, hme, hgh, B⟩ := hrel
    rcases List.eq_nil_or_concat l with rfl | ⟨pre, x, rfl⟩
    · have hwv : ∃ A cap, u1 = .slice A 0 cap := by
        rcases hv.2 with ⟨rfl, _⟩ | ⟨g, cap, cur, rfl, _⟩
        · exact ⟨_, _, rfl⟩
        · exact ⟨_, _, rfl⟩
      obtain ⟨A, cap, rfl⟩ := hwv
      have HI := Lib.hid hI
      have HB := Lib.hid hb
      clear hI hv hb
      go_wp2
      go_ret
      exact ⟨sb, seen, rfl, HB.out, HI.out.done, B2, B⟩
    · rw [List.concat_eq_append] at hv hme hI hln
      rw [List.length_append, List.length_singleton] at hv hme
      obtain ⟨gb, cap, rfl, hgb, hgl⟩ := hv.form (by omega)
      have hx : x < n := hln x (by simp)
      have c1 : wr.cell? ⟨gb, pre.length, none⟩ = some (.int .i64 (x : Int)) := by
        rw [hv.cellAt _ (by omega), nats_append, List.getElem?_append_right (by rw [nats_len]; exact Nat.le_refl _)]
        simp [nats_len, nats]
      have c2 : wr.cell? ⟨sb, x, none⟩ = some (.bool (seen x)) := by rw [hb.cell]; exact boolsA_get seen hx
      have f2 := hb.frozen x
      have zs := hb.lt
      have x0 : (0 : Int) ≤ (x : Int) := by omega
      have x1 : (x : Int) < (n : Int) := by omega
      have hcut := owns_cut hv (m := pre.length) (by omega)
      rw [nats_take, List.take_left' rfl] at hcut
      have d1 : (0 : Int) < ((pre.length + 1 : Nat) : Int) := by omega
      have d2 : ((pre.length + 1 : Nat) : Int) - 1 = (pre.length : Int) := by omega
      have hcap : pre.length + 1 ≤ cap := by
        rcases hv.2 with ⟨h', _⟩ | ⟨g', cap', cur, h', _, _, hnc, _⟩
        · simp at h'
        · simp only [Value.slice.injEq, Option.some.injEq, Addr.mk.injEq, and_true, true_and] at h'
          obtain ⟨rfl, rfl⟩ := h'
          exact hnc
      have hcap' : pre.length ≤ cap := by omega
      have hln' : ∀ y ∈ pre, y < n := fun y hy => hln y (by simp [hy])
      cases hsx : seen x with
      | true =>
        rw [hsx] at c2
        have HV := Lib.hid hcut
        have HB := Lib.hid hb
        have HI := Lib.hid (hI.drop hsx)
        clear hv hb hI hcut
        go_wp2
        go_roundg (pre.length + openW E seen)
        case measure => omega
        case rel => exact ⟨pre, seen, HV.out, by simpa [Value.ownBlock] using hvb, HB.out, HI.out, hln', Nat.le_refl _, by omega, B⟩
      | false =>
        rw [hsx] at c2
        have hsd := HS.out.below B
        obtain ⟨vv, hvv, hR⟩ := hsd.2 x hx
        have zso := hsd.1
        have hI' := hI.mark
        have hop := openW_mark E seen x hsx
        have hsl := sideL_len E x
        have hb' := hb.put x (.bool true) (boolsA_set n x seen)
        have B' := below_put (p := ⟨sb, x, none⟩) B B2 (.bool true)
        have zs0 := HS.out.1
        have hvv' : (wr.setCell ⟨sb, x, none⟩ (.bool true)).cell? ⟨so, x, none⟩ = some vv := (B'.cell (p := ⟨so, x, none⟩) zs0).trans ((B.cell (p := ⟨so, x, none⟩) zs0).symm.trans hvv)
        have hne : gb ≠ sb := by simpa [Value.ownBlock] using hvb
        have hcut' := owns_far (w1 := wr.setCell ⟨sb, x, none⟩ (.bool true)) hcut (fun k e => Below.heap_setCell _ _ _ _ (fun c => hne ((by simpa [Value.ownBlock] using e : gb = k).trans c)))
        obtain ⟨vv0, hv0, hR0⟩ := HS.out.2 x hx
        have hveq : vv0 = vv := by
          have := (B.cell (p := ⟨so, x, none⟩) zs0).trans hv0
          rw [hvv] at this
          exact (Option.some.inj this).symm
        subst hveq
        have hR1 := hR0.below B'
        have HV := Lib.hid hcut'
        have HB := Lib.hid hb'
        have HI := Lib.hid hI'
        clear hv hb hI hcut hb' hI' hcut' hvv hR hR0 hv0 hsd
        go_upto_region 7 with (fail)
        generalize hW2 : wr.setCell ⟨sb, x, none⟩ (.bool true) = W2 at *
        clear hW2 c1 c2 f2
        have zb := HB.out.lt
        have zso2 : so < W2.heap.size := Nat.lt_of_lt_of_le zs0 B'.size
        obtain ⟨A, cap2, rfl, hA⟩ := hR1
        rcases hA with ⟨rfl, rfl, hnil⟩ | ⟨gs, os, rfl, hgs, hcs⟩
        · rw [hnil] at HI hop
          rw [hnil] at hvv'
          simp only [List.length_nil] at hvv' hop
          go_wp2_with (at_builtin; refine wpList_append_own_none rfl _ _ 25 rfl w0.heap.size 3 i0 1 Tryd.underlying25 hi0 hz1 (.slice (some ⟨gb, 0, none⟩) pre.length cap) pre.length (nats pre) rfl HV.out rfl ?_)
          go_roundg (pre.length + openW E (updB seen x))
          case measure => omega
          case rel => exact ⟨pre, _, HV.out, by simpa [Value.ownBlock] using hne, HB.out, by simpa using HI.out, hln', Nat.le_refl _, by omega, B'⟩
        · have hnews := Reads.news hcs
          have hn1 := nats_one (sideL E x)
          have hnl := nats_len (sideL E x)
          go_wp2_with (at_builtin; refine wpList_append_own_at _ rfl _ _ 25 rfl w0.heap.size 3 i0 (.int .i64 0) 1 8 Tryd.underlying25 hi0 hz0 hz1 hz2 rfl (by decide) (.slice (some ⟨gb, 0, none⟩) pre.length cap) pre.length (nats pre) rfl HV.out ⟨gs, os, none⟩ (sideL E x).length cap2 (nats (sideL E x)) rfl (by omega) hnews hn1 (by simp only [maxLen]; omega) (by omega) B'.size ?_; intro v3 w3 own3 gr3 nil3 at3)
          have hl3 : pre.length + (sideL E x).length = (pre ++ sideL E x).length := by simp
          rw [← nats_append, hl3] at own3
          have n3 : v3.ownBlock ≠ some sb := by
            rcases at3 with c | c
            · rw [c]; simpa [Value.ownBlock] using hne
            · rw [c]; simp; omega
          have hb3 : Blk w3 sb 4 (boolsA n (updB seen x)) := (gr3.block sb zb (by simpa [Value.ownBlock] using Ne.symm hne)).trans HB.out
          have B3 := below_grown B' gr3 (fun k e => by have : gb = k := by simpa [Value.ownBlock] using e
                                                       omega) B'.size
          have HV3 := Lib.hid own3
          have HB3 := Lib.hid hb3
          clear own3 gr3 nil3 at3 hb3 hnews hcs
          go_wp2
          go_roundg ((pre ++ sideL E x).length + openW E (updB seen x))
          case measure => rw [List.length_append]; omega
          case rel =>
            refine ⟨pre ++ sideL E x, _, HV3.out, n3, HB3.out, HI.out, fun y hy => ?_, Nat.le_refl _, by rw [List.length_append]; omega, B3⟩
            rcases List.mem_append.1 hy with hy | hy
            · exact hln' y hy
            · exact (HE.out _ (mem_sideL.1 hy)).2
end Go.Proofs.YtdgclggmemciaaaDoor
