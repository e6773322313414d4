/- Hosts, walked. -/
import Derived.Test.YtbnnbhblfclomaaDoorO1
import Derived.Test.YtbnnbhblfclomaaDoorT1
import Derived.Test.YtbnnbhblfclomaaDoorH0
import Derived.Test.YtbnnbhblfclomaaDoorH1
import Derived.Test.YtbnnbhblfclomaaDoorC1
namespace Go.Proofs.YtbnnbhblfclomaaDoor
open Go.RowKit
set_option linter.unusedSimpArgs false
set_option linter.unusedVariables false
set_option linter.unusedVariables false
theorem own_any {w : World} {B : Nat} {v : Value} {U : List Int} (h : w.ownsRow B 3 1 v U.length (cellsI U)) : ∃ A c g, v = .slice A U.length c ∧ B ≤ g ∧ (0 < U.length → g < w.heap.size) ∧ ∀ j, j < U.length → A = some ⟨g, 0, none⟩ ∧ w.cell? ⟨g, j, none⟩ = some (.int .i64 (U.getD j 0)) := by
  rcases h.2 with ⟨e, c⟩ | ⟨g, cap, cur, e, hB, hb, h1, h2, h3, h4⟩
  · have hl := List.length_eq_zero_iff.1 c
    subst hl
    exact ⟨none, 0, B, e, Nat.le_refl _, fun h => by simp at h, fun j hj => by simp at hj⟩
  · have hb' : Blk w g 3 cur := hb
    refine ⟨_, cap, g, e, hB, fun _ => hb'.lt, fun j hj => ⟨rfl, ?_⟩⟩
    have e0 : (cellsI U)[j]? = some (.int .i64 (U.getD j 0)) := by
      simp [cellsI, List.getD_eq_getElem?_getD, List.getElem?_eq_getElem hj]
    rw [← h4, List.getElem?_take_of_lt (by omega), Array.getElem?_toList] at e0
    rw [hb'.cell, e0]
theorem owns_blkN {w : World} {B g n : Nat} {cs : List Value} (hb : Blk w g 3 cs.toArray) (hl : cs.length = n) (hB : B ≤ g) (hn : n ≤ 1024) : w.ownsRow B 3 1 (.slice (some ⟨g, 0, none⟩) n n) n cs := by
  refine ⟨by simp [hl], .inr ⟨g, n, cs.toArray, rfl, hB, hb, Nat.le_refl _, by simp only [maxLen]; omega, by simp [hl], ?_⟩⟩
  show (cs.toArray.toList).take (n * 1) = cs
  rw [List.take_of_length_le (by simp [hl])]
theorem own_nat {w : World} {B : Nat} {v : Value} {U : List Nat} (h : w.ownsRow B 3 1 v U.length (nats U)) : ∃ A c g, v = .slice A U.length c ∧ (0 < U.length → g < w.heap.size) ∧ ∀ j, j < U.length → A = some ⟨g, 0, none⟩ ∧ w.cell? ⟨g, j, none⟩ = some (.int .i64 ((U.getD j 0 : Nat) : Int)) := by
  rcases h.2 with ⟨e, c⟩ | ⟨g, cap, cur, e, hB, hb, h1, h2, h3, h4⟩
  · have hl := List.length_eq_zero_iff.1 c
    subst hl
    exact ⟨none, 0, B, e, fun h => by simp at h, fun j hj => by simp at hj⟩
  · have hb' : Blk w g 3 cur := hb
    refine ⟨_, cap, g, e, fun _ => hb'.lt, fun j hj => ⟨rfl, ?_⟩⟩
    have e0 : (nats U)[j]? = some (.int .i64 ((U.getD j 0 : Nat) : Int)) := by
      unfold nats; simp [List.getD_eq_getElem?_getD, List.getElem?_eq_getElem hj]
    rw [← h4, List.getElem?_take_of_lt (by omega), Array.getElem?_toList] at e0
    rw [hb'.cell, e0]
def HostsSaid (LL : List (List Int)) (fs : List Bool) (w : World) (y : Ending) (w' : World) : Prop :=
  (∃ v L e, y = .returned (.tuple #[v, errI e]) ∧ HostsIs LL fs e L ∧ RdI w' v w'.heap.size L ∧ L.length ≤ 1024) ∧ Below w.heap.size w w'
set_option maxRecDepth 100000 in
set_option maxHeartbeats 16000000 in
theorem hosts_walk (u v : Value) (LL : List (List Int)) (fs : List Bool) (w : World) (hu : RdLL w u w.heap.size LL) (hv : RdB w v w.heap.size fs) (hfz : fs.length ≤ 9223372036854775807) (hLz : LL.length ≤ 9223372036854775807)
    (hsm : LL.length ≤ 1024 → LL.length ≤ 40 ∧ ∀ i, i < LL.length → (Par LL i).length ≤ 100) : Calls Tryd.prog 8 #[u, v] w (HostsSaid LL fs w) := by
  obtain ⟨A, cap, rfl⟩ := hu.form
  obtain ⟨A1, cap1, rfl⟩ := hv.form
  have HU := Lib.hid hu
  have HV := Lib.hid hv
  clear hu hv
  by_cases h1 : 1024 < LL.length
  · have h1' : (1024 : Int) < (LL.length : Int) := by omega
    have HIs := Lib.hid (show HostsIs LL fs 2 [] from .inl ⟨.inl h1, rfl, rfl⟩)
    clear h1 hsm
    go_enter Tryd.func8, Tryd.ntmps8
    go_wp2_with (fail)
    go_ret2
    exact ⟨⟨_, [], 2, rfl, HIs.out, .inl ⟨_, _, rfl, by simp, rfl⟩, Nat.zero_le _⟩, Below.refl _ _⟩
  have h1' : ¬ (1024 : Int) < (LL.length : Int) := by omega
  by_cases h2 : 1024 < fs.length
  · have h2' : (1024 : Int) < (fs.length : Int) := by omega
    have HIs := Lib.hid (show HostsIs LL fs 2 [] from .inl ⟨.inr h2, rfl, rfl⟩)
    clear h2 hsm
    go_enter Tryd.func8, Tryd.ntmps8
    go_wp2_with (fail)
    go_ret2
    exact ⟨⟨_, [], 2, rfl, HIs.out, .inl ⟨_, _, rfl, by simp, rfl⟩, Nat.zero_le _⟩, Below.refl _ _⟩
  have h2' : ¬ (1024 : Int) < (fs.length : Int) := by omega
  by_cases h3 : LL.length ≠ fs.length
  · have h3' : ((LL.length : Int) != (fs.length : Int)) = true := by simp; omega
    have HIs := Lib.hid (show HostsIs LL fs 1 [] from .inr ⟨by omega, .inl ⟨h3, rfl, rfl⟩⟩)
    clear h3 hsm
    go_enter Tryd.func8, Tryd.ntmps8
    go_wp2_with (fail)
    go_ret2
    exact ⟨⟨_, [], 1, rfl, HIs.out, .inl ⟨_, _, rfl, by simp, rfl⟩, Nat.zero_le _⟩, Below.refl _ _⟩
  have h3e : LL.length = fs.length := by omega
  have h3' : ((LL.length : Int) != (fs.length : Int)) = false := by simp; omega
  obtain ⟨hn40, hpl⟩ := hsm (by omega)
  have HPL := Lib.hid hpl
  have HEQ := Lib.hid h3e
  have HMK : ∀ e L, ((¬ Ranged LL ∧ e = 5 ∧ L = []) ∨ (Ranged LL ∧ ((¬ Acyc (EW LL) ∧ e = 9 ∧ L = []) ∨ (Acyc (EW LL) ∧ e = 0 ∧ L = (List.range LL.length).map (fun i => (stI LL fs i : Int)))))) → HostsIs LL fs e L :=
    fun e L h => .inr ⟨by omega, .inr ⟨h3e, h⟩⟩
  have HMK := Lib.hid HMK
  obtain ⟨ii, hi0, hz0, hz1, hz2⟩ := info_parts info23
  clear h1 h2 h3 hpl
  generalize hfn : fs.length = fn at *
  subst h3e
  generalize hn : LL.length = n at *
  go_enter Tryd.func8, Tryd.ntmps8
  go_upto_region 8 with (fail)
  go_loopw [7, 11, 37, 47] (fun uv _ iv _ wr => ∃ (i : Nat) (E : Ways), iv = .int .i64 i ∧ i ≤ n ∧ WIs LL i [] E ∧ E.length ≤ 100 * i ∧ (∀ j, j < i → ∀ p, p ∈ Par LL j → 0 ≤ p ∧ p < (n : Int)) ∧ wr.ownsRow w.heap.size 55 2 uv E.length (cells2 E) ∧ Below w.heap.size w wr) (fun _ _ iv _ _ => n - (intOf iv).toNat)
  case atStart => exact ⟨0, [], rfl, Nat.zero_le _, WIs.zero LL, Nat.zero_le _, fun j hj => by omega, World.ownsRow_nil _ _ _ _, Below.refl _ _⟩
  case round =>
    obtain ⟨i, E, rfl, hi, hWI, hEl, hrg, own, bel⟩ := hrel
    have i0 : (0 : Int) ≤ i := by omega
    have HWI := Lib.hid hWI
    have HRG := Lib.hid hrg
    have HOW := Lib.hid own
    have BEL := Lib.hid bel
    have HULL := Lib.hid ((HU.out.below bel (Nat.le_refl _)).wider bel.size)
    clear hWI hrg own bel
    by_cases hlt : i < n
    · have hlt' : (i : Int) < (n : Int) := by omega
      have hltL : i < LL.length := by omega
      rw [← hn] at HULL
      obtain ⟨g, o, A2, c2, rfl, c0, hI⟩ := HULL.out.cell hltL
      rw [hn] at HULL
      have z0 := World.block_lt_of_cell? _ _ c0
      have hll := HPL.out i hlt
      obtain ⟨l, hl⟩ : ∃ l, Par LL i = l := ⟨_, rfl⟩
      have hl' : LL.getD i [] = l := hl
      rw [hl'] at c0 hI
      rw [hl] at hll
      have HLI := Lib.hid hl
      have SW := Lib.hid (sorted_walk wr.heap.size (.slice A2 l.length c2) l (by omega) (wr.alloc (.cells #[.slice A2 l.length c2] 26)) (by simp) (by simp) ((hI.alloc (Nat.le_refl _) _).wider (by simp)))
      have B1 := Lib.hid (below_al (Below.refl wr.heap.size wr) (.cells #[.slice A2 l.length c2] 26))
      have hszB : wr.heap.size ≤ (wr.alloc (.cells #[.slice A2 l.length c2] 26)).heap.size := by simp
      clear hl hl' hI HULL
      go_wp2_with (fail)
      refine (values_walk A2 l.length c2 wr).mono ?_
      rintro x w1 ⟨rfl, rfl⟩
      go_wp2_with (fail)
      refine SW.out.mono ?_
      rintro x w2 ⟨sv, rfl, own2, B2⟩
      have CW := Lib.hid (comp_walk sv l (by omega) w2 wr.heap.size (Nat.le_trans hszB B2.size) (owns_mono own2 hszB))
      have B3 := Lib.hid (B1.out.trans (B2.mono hszB))
      clear SW own2 B2 B1 hszB
      go_wp2_with (fail)
      refine CW.out.mono ?_
      rintro x w3 ⟨cv, U, rfl, hUp, hUl, own3, B4⟩
      have B5 := Lib.hid (B3.out.trans B4)
      have HUP := Lib.hid hUp
      obtain ⟨A3, c3, g3, rfl, hg3, hg3l, hc3⟩ := own_any own3
      have HC3 := Lib.hid hc3
      have HG3 := Lib.hid hg3l
      have HOW3 := Lib.hid (owns_below HOW.out B5.out)
      have hne3 := Lib.hid (show u7.ownBlock ≠ some g3 from fun e => by have := (HOW.out.lt g3 e).2; omega)
      have B6 := Lib.hid (below_trans BEL.out B5.out)
      clear CW B3 own3 B4 hUp hc3 hg3l c0 z0 HOW B5 BEL
      have HH0 := Lib.hid (show ∀ j, j < U.length → w3.cell? ⟨g3, j, none⟩ = some (.int .i64 (U.getD j 0)) from fun j hj => (HC3.out j hj).2)
      have HA3 := Lib.hid (show ∀ j, j < U.length → A3 = some ⟨g3, 0, none⟩ from fun j hj => (HC3.out j hj).1)
      have hUl1 : U.length ≤ 100 := by omega
      clear HC3
      go_upto_region 11 with (fail)
      go_loopw [7, 11, 47] (fun uv _ kv w4 => ∃ (k : Nat) (F : Ways), kv = .int .i64 k ∧ k ≤ U.length ∧ WIs LL i (U.take k) F ∧ F.length ≤ 100 * i + k ∧ (∀ p, p ∈ U.take k → 0 ≤ p ∧ p < (n : Int)) ∧ uv.ownBlock ≠ some g3 ∧ (∀ j, j < U.length → w4.cell? ⟨g3, j, none⟩ = some (.int .i64 (U.getD j 0))) ∧ w4.ownsRow w.heap.size 55 2 uv F.length (cells2 F) ∧ Below w.heap.size w w4) (fun _ _ kv _ => U.length - (intOf kv).toNat)
      case atStart => exact ⟨0, E, rfl, Nat.zero_le _, HWI.out, by omega, fun p hp => by simp at hp, hne3.out, HH0.out, HOW3.out, B6.out⟩
      case round =>
        obtain ⟨w4, rfl⟩ : ∃ Z, Z = wr := ⟨_, rfl⟩
        obtain ⟨k, F, rfl, hk, hWF, hFl, hrk, hob, hcl, own, bel⟩ := hrel
        have k0 : (0 : Int) ≤ k := by omega
        have HWF := Lib.hid hWF
        have HRK := Lib.hid hrk
        have HOB := Lib.hid hob
        have HCL := Lib.hid hcl
        have HOW := Lib.hid own
        have BEL := Lib.hid bel
        clear hWF hrk hob hcl own bel HOW3 B6 HH0 hne3
        by_cases hkl : k < U.length
        · have hkl' : (k : Int) < (U.length : Int) := by omega
          obtain rfl := HA3.out k hkl
          have c0 := HCL.out k hkl
          have z0 := World.block_lt_of_cell? _ _ c0
          have HTK := Lib.hid (take_succ_int hkl)
          have HMEM := Lib.hid (show U.getD k 0 ∈ Par LL i by
            rw [HLI.out]
            exact (HUP.out.2 _).1 (by rw [List.getD_eq_getElem?_getD, List.getElem?_eq_getElem hkl]; exact List.getElem_mem _))
          generalize U.getD k 0 = p at *
          by_cases hp : 0 ≤ p ∧ p < (n : Int)
          · obtain ⟨hp0, hp1⟩ := hp
            have hp0' : ¬ p < 0 := by omega
            have hp1' : ¬ (n : Int) ≤ p := by omega
            have HWS := Lib.hid (HWF.out.snoc p)
            obtain ⟨q, rfl⟩ : ∃ q : Nat, p = (q : Int) := ⟨p.toNat, by omega⟩
            rw [Int.toNat_natCast] at HWS
            have hva := HOW.out.alloc (.cells #[.int .i64 (q : Int), .int .i64 (i : Int)] 55)
            have hnw := Lib.hid (World.news_of_block (cs := #[.int .i64 (q : Int), .int .i64 (i : Int)]) (t := 55) (fr := (0, 0)) (heap_alloc_new w4 (.cells #[.int .i64 (q : Int), .int .i64 (i : Int)] 55)))
            have hsz4 : w.heap.size ≤ (w4.alloc (.cells #[.int .i64 (q : Int), .int .i64 (i : Int)] 55)).heap.size := by have := BEL.out.size; simp; omega
            go_wp2_with (at_builtin; refine wpList_append_own_at _ rfl _ _ 49 rfl w.heap.size 55 ii (.agg #[.int .i64 0, .int .i64 0]) 2 16 Tryd.underlying49 hi0 hz0 hz1 hz2 rfl (by decide) _ F.length (cells2 F) rfl hva ⟨w4.heap.size, 0, none⟩ 1 1 [.int .i64 (q : Int), .int .i64 (i : Int)] rfl rfl hnw.out (by simp [Value.oneCell']) (by simp only [maxLen]; omega) (by omega) hsz4 ?_; intro v5 w5 own5 gr5 nil5 at5)
            have B5 := Lib.hid (below_grown' (BEL.out.alloc BEL.out.size _) gr5 (fun k e => (HOW.out.lt k e).1) hsz4)
            rw [← cells2_snoc, show F.length + 1 = (F ++ [(q, i)]).length by simp] at own5
            have HO5 := Lib.hid own5
            have HN5 := Lib.hid (show v5.ownBlock ≠ some g3 from by
              rcases at5 with e | e
              · rw [e]; exact HOB.out
              · intro h
                have h2 := Option.some.inj (e.symm.trans h)
                have z : g3 < w4.heap.size := z0
                simp at h2; omega)
            have HC5 := Lib.hid (show ∀ j, j < U.length → w5.cell? ⟨g3, j, none⟩ = some (.int .i64 (U.getD j 0)) from fun j hj => by
              have h1 := HCL.out j hj
              have h2 := (Below.refl w4.heap.size w4).alloc (Nat.le_refl _) (.cells #[.int .i64 (q : Int), .int .i64 (i : Int)] 55) |>.cell (p := ⟨g3, j, none⟩) z0
              have h3 : w5.heap[g3]? = (w4.alloc (.cells #[.int .i64 (q : Int), .int .i64 (i : Int)] 55)).heap[g3]? := gr5.block g3 (by have : g3 < w4.heap.size := z0; simp; omega) (fun e => HOB.out e.symm)
              rw [← h1, ← h2]
              exact World.cell?_of_block (a := ⟨g3, j, none⟩) h3)
            clear own5 gr5 nil5 at5 hva hsz4 c0 z0
            go_wp2
            go_roundw
            case rel => exact ⟨k + 1, F ++ [(q, i)], by go_num, by omega, by rw [HTK.out]; exact HWS.out, by simp; omega, fun p hp => by
              rw [HTK.out] at hp
              rcases List.mem_append.1 hp with hp | hp
              · exact HRK.out p hp
              · cases List.mem_singleton.1 hp; exact ⟨hp0, hp1⟩, HN5.out, HC5.out, HO5.out, B5.out⟩
            case measure => simp [intOf]; omega
          · have HIs := Lib.hid (HMK.out 5 [] (.inl ⟨fun hr => hp (by have := hr i (by omega) p HMEM.out; rw [hn] at this; exact this), rfl, rfl⟩))
            by_cases hp0 : p < 0
            · clear hp
              go_wp2_with (fail)
              go_ret2
              exact ⟨⟨_, [], 5, rfl, HIs.out, .inl ⟨_, _, rfl, by simp, rfl⟩, Nat.zero_le _⟩, BEL.out⟩
            · have hp1 : (n : Int) ≤ p := by omega
              clear hp
              go_wp2_with (fail)
              go_ret2
              exact ⟨⟨_, [], 5, rfl, HIs.out, .inl ⟨_, _, rfl, by simp, rfl⟩, Nat.zero_le _⟩, BEL.out⟩
        · obtain rfl : k = U.length := by omega
          have HWN := Lib.hid (show WIs LL (i + 1) [] F from WIs.next (by have := HWF.out; rwa [List.take_length] at this) (by rw [HLI.out]; exact HUP.out.2))
          have HRN := Lib.hid (show ∀ j, j < i + 1 → ∀ p, p ∈ Par LL j → 0 ≤ p ∧ p < (n : Int) from fun j hj p hp => by
            by_cases hji : j = i
            · subst hji
              have := HRK.out p (by rw [List.take_length]; exact (HUP.out.2 p).2 (by rw [← HLI.out]; exact hp))
              exact this
            · exact HRG.out j (by omega) p hp)
          go_wp2_with (fail)
          go_roundw
          case rel => exact ⟨i + 1, F, by go_num, by omega, HWN.out, by omega, HRN.out, HOW.out, BEL.out⟩
          case measure => simp [intOf]; omega
    · have hin : i = n := by omega
      subst hin
      have hrgd : Ranged LL := fun j hj p hp => by have := HRG.out j (by omega) p hp; rw [hn]; exact this
      have hWI : WIs LL LL.length [] E := by rw [hn]; exact HWI.out
      have hb := hWI.bound hrgd
      rw [hn] at hb
      have OD := Lib.hid (order_ok i u7 E wr (Pairs.of_owns2 HOW.out (by omega)) hb (by omega) (by omega))
      have HAC := Lib.hid (Acyc.same hWI.all)
      have HEW := Lib.hid hWI.all
      have HRD := Lib.hid hrgd
      have HBD := Lib.hid hb
      clear hrgd hWI hb HRG HWI HULL HOW
      go_wp2_with (fail)
      refine OD.out.mono ?_
      rintro x w2 ⟨⟨ord, dep, hs, hcase⟩, B2⟩
      have hful := hs.full HBD.out
      have HGR := Lib.hid hs.gre
      have B3 := Lib.hid (below_trans BEL.out B2)
      clear OD hs B2 BEL
      rcases hcase with ⟨hol, ov, rfl, own⟩ | ⟨hol, rfl⟩
      · have HIs := Lib.hid (HMK.out 0 _ (.inr ⟨HRD.out, .inr ⟨HAC.out.1 (hful.1 hol), rfl, rfl⟩⟩))
        obtain ⟨A5, c5, g5, rfl, h5l, h5c⟩ := own_nat own
        have H5 := Lib.hid h5c
        have hmk := fun W => make_walk i (by omega) W
        clear own hful h5c
        rw [hol] at h5l
        have HV2 := Lib.hid (show RdB w2 (.slice A1 fs.length cap1) w2.heap.size fs by rw [hfn]; exact (HV.out.below B3.out (Nat.le_refl _)).wider B3.out.size)
        have HU2 := Lib.hid (show RdLL w2 (.slice A LL.length cap) w2.heap.size LL by rw [hn]; exact (HU.out.below B3.out (Nat.le_refl _)).wider B3.out.size)
        have hb0 := Lib.hid ((Blk.new w2 3 (natsA i (fun _ => 0))).alloc (.cells #[.slice (some ⟨w2.heap.size, 0, none⟩) i i] 26))
        have hb1 := Lib.hid (Blk.new1 w2 (.cells (natsA i (fun _ => 0)) 3) 26 #[.slice (some ⟨w2.heap.size, 0, none⟩) i i])
        have hbl := Lib.hid (below_al (below_al (Below.refl w2.heap.size w2) (.cells (natsA i (fun _ => 0)) 3)) (.cells #[.slice (some ⟨w2.heap.size, 0, none⟩) i i] 26))
        generalize hgo : w2.heap.size = go at *
        go_upto_region 24 with (fail)
        generalize (w2.alloc (Obj.cells (natsA i fun x => 0) 3)).alloc (Obj.cells #[Value.slice (some ⟨go, 0, none⟩) i i] 26) = w3 at *
        clear hmk
        go_loopw [17, 81] (fun _ kv wl => ∃ k : Nat, kv = .int .i64 k ∧ k ≤ i ∧ Blk wl go 3 (natsA i (stP LL fs (ord.take k))) ∧ Blk wl (go + 1) 26 #[.slice (some ⟨go, 0, none⟩) i i] ∧ Below go w2 wl) (fun _ kv _ => i - (intOf kv).toNat)
        case atStart => exact ⟨0, rfl, Nat.zero_le _, hb0.out, hb1.out, hbl.out⟩
        case round =>
          obtain ⟨wl, rfl⟩ : ∃ Z, Z = wr := ⟨_, rfl⟩
          obtain ⟨k, rfl, hk, hbo, hbc, bel⟩ := hrel
          have k0 : (0 : Int) ≤ k := by omega
          have HBO := Lib.hid hbo
          have HBC := Lib.hid hbc
          have BEL := Lib.hid bel
          clear hbo hbc bel hb0 hb1 hbl
          by_cases hki : k < i
          · have hki' : (k : Int) < (i : Int) := by omega
            have hko : k < ord.length := by omega
            obtain ⟨rfl, d0⟩ := H5.out k hko
            have hg5 := h5l (by omega)
            have c0 := (BEL.out.cell (p := ⟨g5, k, none⟩) hg5).trans d0
            have z0 := World.block_lt_of_cell? _ _ c0
            have hxm : ord.getD k 0 ∈ ord := by rw [List.getD_eq_getElem?_getD, List.getElem?_eq_getElem hko]; exact List.getElem_mem _
            have hxi := HGR.out.lt _ hxm
            have HTK := Lib.hid (take_succ_nat hko)
            have HPV := Lib.hid (fun p (hp : p ∈ Par LL (ord.getD k 0)) => gre_prev HGR.out hko ((HEW.out _ _).2 (mem_EW.2 ⟨by omega, p, hp, rfl⟩)))
            generalize ord.getD k 0 = x at *
            have x0 : (0 : Int) ≤ x := by omega
            have x1 : (x : Int) < (i : Int) := by omega
            obtain ⟨gf, of, rfl, f0⟩ := (HV2.out.below BEL.out (Nat.le_refl _)).cell (i := x) (by omega)
            have zf := World.block_lt_of_cell? _ _ f0
            have y0 : wl.cell? ⟨go + 1, 0, none⟩ = some (.slice (some ⟨go, 0, none⟩) i i) := by rw [HBC.out.cell]; rfl
            have zy := World.block_lt_of_cell? _ _ y0
            obtain ⟨b, hbx⟩ : ∃ b, fs.getD x false = b := ⟨_, rfl⟩
            rw [hbx] at f0
            have HFX := Lib.hid (show fl fs x = b from hbx)
            clear d0 hxm hbx
            cases b with
            | false =>
              have HN := Lib.hid (show natsA i (stP LL fs (ord.take k)) = natsA i (stP LL fs (ord.take (k + 1))) from natsA_congr fun j _ => by rw [HTK.out, stP_up HFX.out])
              clear HPV
              go_wp2_with (fail)
              go_roundw
              case rel => exact ⟨k + 1, by go_num, by omega, by rw [← HN.out]; exact HBO.out, HBC.out, BEL.out⟩
              case measure => simp [intOf]; omega
            | true =>
              obtain ⟨gp, op, A6, c6, rfl, p0, hI⟩ := (HU2.out.below BEL.out (Nat.le_refl _)).cell (i := x) (by omega)
              have zp := World.block_lt_of_cell? _ _ p0
              have o0 : wl.cell? ⟨go, x, none⟩ = some (.int .i64 ((stP LL fs (ord.take k) x : Nat) : Int)) := by rw [HBO.out.cell, natsA_get _ hxi]
              have zo := World.block_lt_of_cell? _ _ o0
              have fz : wl.frozen? ⟨go, x, none⟩ = false := HBO.out.frozen x
              have UA : UpAt wl (go + 1) go i (fun p => ((stP LL fs (ord.take k) p : Nat) : Int)) := ⟨y0, fun p hp => by rw [HBO.out.cell, natsA_get _ hp]⟩
              have hwz : go ≤ wl.heap.size := Nat.le_of_lt HBO.out.lt
              have CU := Lib.hid (containsUp_walk (go + 1) go i _ _ _ wl UA (hI.wider hwz) (fun p hp => by have := HRD.out x (by omega) p hp; rw [hn] at this; exact this) (by omega) (by have := HPL.out x hxi; unfold Par at this; omega))
              rw [show LL.getD x [] = Par LL x from rfl] at CU p0 hI
              rw [stP_any HPV.out] at CU
              have hll := HPL.out x hxi
              have HST := Lib.hid (show stI LL fs x = if (Par LL x = [] ∨ (Par LL x).any (fun p => !fl fs p.toNat) = true) then 2 else 3 by unfold stI; rw [if_pos HFX.out])
              have keep : ∀ v : Nat, stI LL fs x = v → natsA i (updN (stP LL fs (ord.take k)) x v) = natsA i (stP LL fs (ord.take (k + 1))) := fun v hv => natsA_congr fun j _ => by rw [HTK.out, stP_down hv]
              have KEEP := Lib.hid keep
              clear HPV hI UA keep
              generalize hlx : Par LL x = l at *
              clear hlx
              by_cases hl0 : l = []
              · subst hl0
                have hs2 : stI LL fs x = 2 := by rw [HST.out, if_pos (.inl rfl)]
                have NB := Lib.hid (HBO.out.put x (.int .i64 ((2 : Nat) : Int)) ((natsA_set i x 2 _).trans (KEEP.out 2 hs2)))
                have NC := Lib.hid (HBC.out.far (p := ⟨go, x, none⟩) (by simp) (.int .i64 ((2 : Nat) : Int)))
                have NL := Lib.hid (below_put (p := ⟨go, x, none⟩) BEL.out (Nat.le_refl _) (.int .i64 ((2 : Nat) : Int)))
                clear CU HST KEEP hs2
                go_wp2_with (fail)
                go_roundw
                case rel => exact ⟨k + 1, by go_num, by omega, NB.out, NC.out, NL.out⟩
                case measure => simp [intOf]; omega
              · have hl1 : ((l.length : Int) == 0) = false := by
                  have : 0 < l.length := List.length_pos_iff.2 hl0
                  simp; omega
                cases hb : l.any (fun p => !fl fs p.toNat) with
                | true =>
                  have hs2 : stI LL fs x = 2 := by rw [HST.out, if_pos (.inr hb)]
                  rw [hb] at CU
                  have NB := Lib.hid (HBO.out.put x (.int .i64 ((2 : Nat) : Int)) ((natsA_set i x 2 _).trans (KEEP.out 2 hs2)))
                  have NC := Lib.hid (HBC.out.far (p := ⟨go, x, none⟩) (by simp) (.int .i64 ((2 : Nat) : Int)))
                  have NL := Lib.hid (below_put (p := ⟨go, x, none⟩) BEL.out (Nat.le_refl _) (.int .i64 ((2 : Nat) : Int)))
                  clear HST KEEP hs2 hb hl0
                  go_wp2_with (fail)
                  refine CU.out.mono ?_
                  rintro y w5 ⟨rfl, rfl⟩
                  go_wp2_with (fail)
                  go_roundw
                  case rel => exact ⟨k + 1, by go_num, by omega, NB.out, NC.out, NL.out⟩
                  case measure => simp [intOf]; omega
                | false =>
                  have hs2 : stI LL fs x = 3 := by rw [HST.out, if_neg (by rintro (h | h); exact hl0 h; rw [hb] at h; cases h)]
                  rw [hb] at CU
                  have NB := Lib.hid (HBO.out.put x (.int .i64 ((3 : Nat) : Int)) ((natsA_set i x 3 _).trans (KEEP.out 3 hs2)))
                  have NC := Lib.hid (HBC.out.far (p := ⟨go, x, none⟩) (by simp) (.int .i64 ((3 : Nat) : Int)))
                  have NL := Lib.hid (below_put (p := ⟨go, x, none⟩) BEL.out (Nat.le_refl _) (.int .i64 ((3 : Nat) : Int)))
                  clear HST KEEP hs2 hb hl0
                  go_wp2_with (fail)
                  refine CU.out.mono ?_
                  rintro y w5 ⟨rfl, rfl⟩
                  go_wp2_with (fail)
                  go_roundw
                  case rel => exact ⟨k + 1, by go_num, by omega, NB.out, NC.out, NL.out⟩
                  case measure => simp [intOf]; omega
          · have hke : k = i := by omega
            subst hke
            have HF := Lib.hid (show natsA k (stP LL fs (ord.take k)) = natsA k (stI LL fs) from natsA_congr fun j hj => by
              rw [List.take_of_length_le (by omega)]
              exact stP_all (fun x hx => HGR.out.full hol (by omega)) j (by omega))
            have y0 : wl.cell? ⟨go + 1, 0, none⟩ = some (.slice (some ⟨go, 0, none⟩) k k) := by rw [HBC.out.cell]; rfl
            have zy := World.block_lt_of_cell? _ _ y0
            go_wp2_with (fail)
            go_ret2
            refine ⟨⟨_, _, 0, rfl, HIs.out, .inr ⟨go, 0, k, by simp [hn], by omega, fun j hj => ?_⟩, by simp; omega⟩, ?_⟩
            · have hjk : j < k := by simpa [hn] using hj
              rw [Nat.zero_add, HBO.out.cell, HF.out, natsA_get _ hjk]
              simp [List.getD_eq_getElem?_getD, hjk, hn]
            · exact B3.out.trans (BEL.out.mono (by have := B3.out.size; omega))
      · have HIs := Lib.hid (HMK.out 9 [] (.inr ⟨HRD.out, .inl ⟨fun ha => hol (hful.2 (HAC.out.2 ha)), rfl, rfl⟩⟩))
        clear hful hol
        go_wp2_with (fail)
        go_ret2
        exact ⟨⟨_, [], 9, rfl, HIs.out, .inl ⟨_, _, rfl, by simp, rfl⟩, Nat.zero_le _⟩, B3.out⟩
end Go.Proofs.YtbnnbhblfclomaaDoor
