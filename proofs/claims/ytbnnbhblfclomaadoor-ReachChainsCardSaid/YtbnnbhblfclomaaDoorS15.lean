/- The places that places lead to, walked. -/
import Derived.Test.YtbnnbhblfclomaaDoorS14
import Derived.Deep.AppendLies
namespace Go.Proofs.YtbnnbhblfclomaaDoor
open Go.RowKit
set_option linter.unusedSimpArgs false
set_option linter.unusedVariables false
theorem below_grown {B : Nat} {W w w1 : World} {row : Option Nat} (h : Below B W w) (g : w.grownBy w1 row) (hr : ∀ k, row = some k → B ≤ k) (hB : B ≤ w.heap.size) : Below B W w1 :=
  ⟨g.os.trans h.os, g.tape.trans h.tape, g.output.trans h.output, Nat.le_trans h.size g.size, fun k hk => (g.block k (by omega) (fun e => by have := hr k e.symm; omega)).trans (h.block k hk)⟩
theorem below_put {B : Nat} {W w : World} {p : Addr} (h : Below B W w) (hp : B ≤ p.block) (u : Value) : Below B W (w.setCell p u) :=
  ⟨h.os, h.tape, h.output, by simpa using h.size, fun k hk => (Below.heap_setCell w p u k (by omega)).trans (h.block k hk)⟩
theorem s4_alloc {W : World} {bx so a : Nat} {v0 v1 v2 : Value} (zx : bx < W.heap.size) (zs : so < W.heap.size) (o : Obj) (h : W.cell? ⟨bx, 0, none⟩ = some v0 ∧ W.cell? ⟨bx, 1, none⟩ = some v1 ∧ W.cell? ⟨so, a, none⟩ = some v2 ∧ W.frozen? ⟨so, a, none⟩ = false) :
    (W.alloc o).drew.cell? ⟨bx, 0, none⟩ = some v0 ∧ (W.alloc o).drew.cell? ⟨bx, 1, none⟩ = some v1 ∧ (W.alloc o).drew.cell? ⟨so, a, none⟩ = some v2 ∧ (W.alloc o).drew.frozen? ⟨so, a, none⟩ = false := by
  have B := bcell (below_al (Below.refl W.heap.size W) o)
  exact ⟨(B.1 bx 0 zx).trans h.1, (B.1 bx 1 zx).trans h.2.1, (B.1 so a zs).trans h.2.2.1, (B.2 so a zs).trans h.2.2.2⟩
set_option maxRecDepth 100000 in
set_option maxHeartbeats 1000000 in
theorem sides_walk (n : Nat) (v : Value) (E : Ways) (w : World) (hL : Pairs w v (castE E)) (hE : ∀ e, e ∈ E → e.1 < n ∧ e.2 < n) (hn : n ≤ 4096) (hm : E.length ≤ 1048576) :
    Calls Tryd.prog 49 #[.int .i64 n, v] w fun x w' => x = .returned (.slice (some ⟨w.heap.size, 0, none⟩) n n) ∧ Sides w' w.heap.size n E ∧ Below w.heap.size w w' := by
  obtain ⟨A, cap, rfl, hbig, hp⟩ := hL
  rw [castE_len] at hp hbig ⊢
  obtain ⟨i0, hi0, hz0, hz1, hz2⟩ := info_parts info3
  obtain ⟨j0, hj0, hy0, hy1, hy2⟩ := info_parts info32
  have hmk : ∀ W : World, (Instr.makeSlice 22 (.int .i64 (n : Int)) (.int .i64 (n : Int))).run Tryd.prog W = .ok (.slice (some ⟨W.heap.size, 0, none⟩) n n) (W.alloc (.cells (madeCells #[Value.slice none 0 0] n) 26)) := fun W => by
    have h := run_make (P := Tryd.prog) W 22 26 j0 (.slice none 0 0) Tryd.underlying22 hj0 hy0 .i64 .i64 n n (by omega) (Int.le_refl _) (by rw [hy2]; omega) (by omega)
    rw [hy1] at h
    simpa [Value.cells] using h
  have S0 : SOwn (w.alloc (.cells (madeCells #[Value.slice none 0 0] n) 26)) w.heap.size n [] (fun _ => .slice none 0 0) := by
    refine ⟨⟨_, Blk.new w 26 _, by rw [size_madeCells], fun x hx => ?_⟩, fun x _ => World.ownsRow_nil _ _ _ _, fun x y k _ _ _ h => by simp [Value.ownBlock] at h⟩
    simp [madeCells, hx, Nat.mod_one]
  have B1 := below_al (Below.refl w.heap.size w) (.cells (madeCells #[Value.slice none 0 0] n) 26)
  have HMK := hmk w
  clear hmk
  generalize hm' : E.length = m at *
  have HP := Lib.hid hp
  have HE := Lib.hid hE
  have HS := Lib.hid S0
  clear hp hE S0
  have d0 : (0 : Int) ≤ n := by omega
  go_enter Tryd.func49, Tryd.ntmps49
  go_upto_region 3 with (fail)
  generalize hW : w.alloc (.cells (madeCells #[Value.slice none 0 0] n) 26) = W at *
  clear hW HMK
  go_loopw [12] (fun iv wr => ∃ (k : Nat) (hd : Nat → Value), iv = .int .i64 k ∧ k ≤ m ∧ SOwn wr w.heap.size n (E.take k) hd ∧ Below w.heap.size w wr) (fun iv _ => m - (intOf iv).toNat)
  case atStart => exact ⟨0, _, rfl, Nat.zero_le _, by simpa using HS.out, B1⟩
  case round =>
    obtain ⟨k, hd, rfl, hk, hS, B⟩ := hrel
    by_cases hkm : k < m
    · have d1 : decide ((k : Int) < (m : Int)) = true := decide_eq_true (by omega)
      obtain ⟨ad, rfl, hl, hc⟩ := HP.out (by omega)
      obtain ⟨y0, y1⟩ := hc k hkm
      obtain ⟨⟨a, b⟩, hab⟩ : ∃ e, E[k]? = some e := ⟨_, List.getElem?_eq_getElem (by omega)⟩
      have hmem := List.mem_of_getElem? hab
      rw [castE_get hab] at y0 y1
      have hab' := HE.out _ hmem
      have e1 : ∀ o p, (⟨(ad.add (k * 2)).block, o, p⟩ : Addr).block < w.heap.size := fun o p => by show (ad.add (k * 2)).block < w.heap.size; rw [add_block]; exact hl
      have x0 := (B.cell (p := ad.add (k * 2)) (by rw [add_block]; exact hl)).trans y0
      have x1 := (B.cell (e1 _ _)).trans y1
      have i0' : (0 : Int) ≤ k := by omega
      have i1' : (k : Int) < m := by omega
      have HSS := Lib.hid hS
      clear hc y0 y1 e1 hmem hS
      go_upto_region 5 with (fail)
      have Bx := below_al B (.cells #[.int .i64 (a : Int), .int .i64 (b : Int)] 55)
      have hx := Blk.new wr 55 #[.int .i64 (a : Int), .int .i64 (b : Int)]
      have hS1 := HSS.out.block (w1 := wr.alloc (.cells #[.int .i64 (a : Int), .int .i64 (b : Int)] 55)) (fun _ _ h2 => Below.heap_alloc wr _ _ h2)
      have bs : w.heap.size + 1 ≤ wr.heap.size := by
        obtain ⟨cs, hcs, _, _⟩ := HSS.out.row
        exact hcs.lt
      have hfx : (hd a).ownBlock ≠ some wr.heap.size := by
        intro e; have := ((HSS.out.own a hab'.1).lt _ e).2; omega
      have hfs : (hd a).ownBlock ≠ some w.heap.size := by
        intro e; have := ((HSS.out.own a hab'.1).lt _ e).1; omega
      generalize hW1 : wr.alloc (.cells #[.int .i64 (a : Int), .int .i64 (b : Int)] 55) = W1 at *
      generalize hbx : wr.heap.size = bx at *
      have zx := hx.lt
      have c0 : W1.cell? ⟨bx, 0, none⟩ = some (.int .i64 (a : Int)) := by rw [hx.cell]; rfl
      have c1 : W1.cell? ⟨bx, 1, none⟩ = some (.int .i64 (b : Int)) := by rw [hx.cell]; rfl
      obtain ⟨cs, hcs, hcn, hca⟩ := hS1.row
      have c2 : W1.cell? ⟨w.heap.size, a, none⟩ = some (hd a) := by rw [hcs.cell]; exact hca a hab'.1
      have zs := hcs.lt
      have f2 : W1.frozen? ⟨w.heap.size, a, none⟩ = false := hcs.frozen a
      have hown := hS1.own a hab'.1
      have a0 : (0 : Int) ≤ (a : Int) := by omega
      have a1 : (a : Int) < (n : Int) := by have := hab'.1; omega
      have HS1 := Lib.hid hS1
      have hlen := sideL_len (E.take k) a
      have hlt2 : (E.take k).length ≤ 1048576 := by simp; omega
      clear hcs hcn hca hS1 hx x0 x1
      refine wp_region_noPanic ?_
      refine wp_regionT (F := fun w' => w'.cell? ⟨bx, 0, none⟩ = some (.int .i64 (a : Int)) ∧ w'.cell? ⟨bx, 1, none⟩ = some (.int .i64 (b : Int)) ∧ w'.cell? ⟨w.heap.size, a, none⟩ = some (hd a) ∧ w'.frozen? ⟨w.heap.size, a, none⟩ = false) (last := 13) (by kernel_rfl) (⟨c0, c1, c2, f2⟩) (fun hHeld => ?_)
      refine regT_take (i := 0) (oi := _) (v := ?_) rfl (by kernel_rfl) (by kernel_rfl) (by kernel_rfl) (by kernel_rfl) (fun _ _ _ h => h) (by rfl) ?_ (by assumption) ?_
      rotate_left
      · intro w hSw; (try dsimp only at hSw); obtain ⟨c0, c1, c2, f2⟩ := hSw; go_simp; try with_reducible rfl
      (try simp only [Act.put, List.setIfInBounds_toArray, List.set_cons_zero, List.set_cons_succ])
      refine regT_take (i := 1) (oi := _) (v := ?_) rfl (by kernel_rfl) (by kernel_rfl) (by kernel_rfl) (by kernel_rfl) (fun _ _ _ h => h) (by rfl) ?_ (by assumption) ?_
      rotate_left
      · intro w hSw; (try dsimp only at hSw); obtain ⟨c0, c1, c2, f2⟩ := hSw; go_simp; try with_reducible rfl
      (try simp only [Act.put, List.setIfInBounds_toArray, List.set_cons_zero, List.set_cons_succ])
      refine regT_take (i := 2) (oi := _) (v := ?_) rfl (by kernel_rfl) (by kernel_rfl) (by kernel_rfl) (by kernel_rfl) (fun _ _ _ h => h) (by rfl) ?_ (by assumption) ?_
      rotate_left
      · intro w hSw; (try dsimp only at hSw); obtain ⟨c0, c1, c2, f2⟩ := hSw; go_simp; try with_reducible rfl
      (try simp only [Act.put, List.setIfInBounds_toArray, List.set_cons_zero, List.set_cons_succ])
      refine regT_take (i := 3) (oi := _) (v := ?_) rfl (by kernel_rfl) (by kernel_rfl) (by kernel_rfl) (by kernel_rfl) (fun _ _ _ h => h) (by rfl) ?_ (by assumption) ?_
      rotate_left
      · intro w hSw; (try dsimp only at hSw); obtain ⟨c0, c1, c2, f2⟩ := hSw; go_simp; try with_reducible rfl
      (try simp only [Act.put, List.setIfInBounds_toArray, List.set_cons_zero, List.set_cons_succ])
      refine regT_take (i := 4) (oi := _) (v := ?_) rfl (by kernel_rfl) (by kernel_rfl) (by kernel_rfl) (by kernel_rfl) (fun _ _ _ h => h) (by rfl) ?_ (by assumption) ?_
      rotate_left
      · intro w hSw; (try dsimp only at hSw); obtain ⟨c0, c1, c2, f2⟩ := hSw; go_simp; try with_reducible rfl
      (try simp only [Act.put, List.setIfInBounds_toArray, List.set_cons_zero, List.set_cons_succ])
      refine regT_take (i := 5) (oi := _) (v := ?_) rfl (by kernel_rfl) (by kernel_rfl) (by kernel_rfl) (by kernel_rfl) (fun _ _ _ h => h) (by rfl) ?_ (by assumption) ?_
      rotate_left
      · intro w hSw; (try dsimp only at hSw); obtain ⟨c0, c1, c2, f2⟩ := hSw; go_simp; try with_reducible rfl
      (try simp only [Act.put, List.setIfInBounds_toArray, List.set_cons_zero, List.set_cons_succ])
      refine regT_take (i := 6) (oi := _) (v := ?_) rfl (by kernel_rfl) (by kernel_rfl) (by kernel_rfl) (by kernel_rfl) (fun _ _ _ h => h) (by rfl) ?_ (by assumption) ?_
      rotate_left
      · intro w hSw; (try dsimp only at hSw); obtain ⟨c0, c1, c2, f2⟩ := hSw; go_simp; try with_reducible rfl
      (try simp only [Act.put, List.setIfInBounds_toArray, List.set_cons_zero, List.set_cons_succ])
      refine regT_take (i := 7) (oi := _) (v := ?_) rfl (by kernel_rfl) (by kernel_rfl) (by kernel_rfl) (by kernel_rfl) (fun _ _ _ h => h) (by rfl) ?_ (by assumption) ?_
      rotate_left
      · intro w hSw; (try dsimp only at hSw); obtain ⟨c0, c1, c2, f2⟩ := hSw; go_simp; try with_reducible rfl
      (try simp only [Act.put, List.setIfInBounds_toArray, List.set_cons_zero, List.set_cons_succ])
      refine regT_take (i := 8) (oi := _) (v := ?_) rfl (by kernel_rfl) (by kernel_rfl) (by kernel_rfl) (by kernel_rfl) (fun _ _ _ h => h) (by rfl) ?_ (by assumption) ?_
      rotate_left
      · intro w hSw; (try dsimp only at hSw); obtain ⟨c0, c1, c2, f2⟩ := hSw; go_simp; try with_reducible rfl
      (try simp only [Act.put, List.setIfInBounds_toArray, List.set_cons_zero, List.set_cons_succ])
      refine regT_take (i := 9) (oi := _) (v := ?_) rfl (by kernel_rfl) (by kernel_rfl) (by kernel_rfl) (by kernel_rfl) (fun _ _ _ h => h) (by rfl) ?_ (by assumption) ?_
      rotate_left
      · intro w hSw; (try dsimp only at hSw); obtain ⟨c0, c1, c2, f2⟩ := hSw; go_simp; try with_reducible rfl
      (try simp only [Act.put, List.setIfInBounds_toArray, List.set_cons_zero, List.set_cons_succ])
      refine regT_one (i := 10) (o := _) rfl (by kernel_rfl) (fun K hK => ?_)
      go_simp
      refine hK.out _ _ (fun _ => s4_alloc zx zs _ ⟨c0, c1, c2, f2⟩) (fun hHeld2 => ?_)
      clear hK K
      replace hHeld := hHeld2 (by decide)
      clear hHeld2
      (try simp only [Act.put, List.setIfInBounds_toArray, List.set_cons_zero, List.set_cons_succ])
      refine regT_one (i := 11) (o := _) rfl (by kernel_rfl) (fun K hK => ?_)
      refine step_append_lies _ (by rfl) _ _ _ (by rfl) (w.heap.size + 1) 3 i0 _ 1 8 Tryd.underlying26 hi0 hz0 hz1 hz2 rfl (by omega) (hd a) _ _ (by rfl) ((hown.drew).alloc _) ⟨W1.heap.size, 0, none⟩ 1 1 [.int .i64 (b : Int)] (by rfl) (by rfl) (World.news_of_block (cs := #[.int .i64 (b : Int)]) (t := 3) (fr := (0, 0)) (heap_alloc_new W1.drew _)) (by simp [Value.oneCell']) (by omega) (by simp only [maxLen]; omega) (by omega) (by simp; omega) (W1.heap.size + 1) (by simp) ?_
      intro gg cap' w1 hown1 hgrow hat hlt
      refine hK.out _ _ (fun _ => ⟨(hgrow.cell_far ⟨bx, 0, none⟩ (by simp; omega) (Ne.symm hfx)).trans hHeld.1, (hgrow.cell_far ⟨bx, 1, none⟩ (by simp; omega) (Ne.symm hfx)).trans hHeld.2.1, (hgrow.cell_far ⟨w.heap.size, a, none⟩ (by simp; omega) (Ne.symm hfs)).trans hHeld.2.2.1, (hgrow.frozen_far ⟨w.heap.size, a, none⟩ (by simp; omega) (Ne.symm hfs)).trans hHeld.2.2.2⟩) (fun hHeld2 => ?_)
      clear hK K
      replace hHeld := hHeld2 (by decide)
      clear hHeld2
      (try simp only [Act.put, List.setIfInBounds_toArray, List.set_cons_zero, List.set_cons_succ])
      refine regT_take (i := 12) (oi := _) (v := ?_) rfl (by kernel_rfl) (by kernel_rfl) (by kernel_rfl) (by kernel_rfl) (fun _ _ _ h => h) (by rfl) ?_ (by assumption) ?_
      rotate_left
      · intro w hSw; (try dsimp only at hSw); obtain ⟨c0, c1, c2, f2⟩ := hSw; go_simp; try with_reducible rfl
      (try simp only [Act.put, List.setIfInBounds_toArray, List.set_cons_zero, List.set_cons_succ])
      refine regT_one (i := 13) (o := _) rfl (by kernel_rfl) (fun K hK => ?_)
      have c3 := hHeld.2.2.1
      have f3 := hHeld.2.2.2
      go_simp
      refine hK.out _ _ (fun c => absurd rfl c) (fun hHeld2 => ?_)
      clear hK K
      (try simp only [Act.put, List.setIfInBounds_toArray, List.set_cons_zero, List.set_cons_succ])
      refine regT_done (by kernel_rfl) ?_ _
      refine NoPanic.normal ?_
      have own2 := HS1.out.block (w1 := W1.drew.alloc (.cells #[.int .i64 (b : Int)] 3)) (fun _ _ h2 => Below.heap_alloc W1.drew _ _ h2)
      have S3 := own2.push hab'.1 hown1 hgrow (hat.imp id (fun c => by rw [c]; simp))
      have B3 := below_put (p := ⟨w.heap.size, a, none⟩) (below_grown (below_al (below_drewN Bx 1) (.cells #[.int .i64 (b : Int)] 3)) hgrow (fun k e => by have := ((HS1.out.own a hab'.1).lt k e).1; omega) (by simp; omega)) (Nat.le_refl _) (.slice (some ⟨gg, 0, none⟩) ((sideL (List.take k E) a).length + 1) cap')
      have hE' : E.take k ++ [(a, b)] = E.take (k + 1) := by rw [List.take_add_one, hab]; rfl
      rw [hE'] at S3
      have HS3 := Lib.hid S3
      clear own2 S3 hE' c0 c1 c2 f2 c3 f3 hHeld HS1 hown1 hgrow hat hown
      go_wp2
      go_roundw
      case rel => exact ⟨k + 1, _, by go_num, by omega, HS3.out, B3⟩
      case measure => simp [intOf]; omega
    · have d1 : decide ((k : Int) < (m : Int)) = false := decide_eq_false (by omega)
      have hkm' : k = m := by omega
      subst hkm'
      have hS' : Sides wr w.heap.size n E := by
        have := hS.sides
        rwa [List.take_of_length_le (by omega)] at this
      have HSS := Lib.hid hS'
      clear hS hS'
      go_wp2
      go_ret
      exact ⟨rfl, HSS.out, B⟩
end Go.Proofs.YtbnnbhblfclomaaDoor
