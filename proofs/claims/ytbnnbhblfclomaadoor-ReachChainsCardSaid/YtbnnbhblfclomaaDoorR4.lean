/- The document's Hosts. -/
import Derived.Test.YtbnnbhblfclomaaDoorR3
import Derived.Test.YtbnnbhblfclomaaDoorR2
namespace Go.Proofs.YtbnnbhblfclomaaDoor
open Go.RowKit
set_option linter.unusedSimpArgs false
set_option linter.unusedVariables false
theorem loopis_acyc {E : Ways} {n k : Nat} {is : Bool} (h : LoopIs E n k is) (hE : ∀ e, e ∈ E → e.1 < n ∧ e.2 < n) : is = false ↔ Acyc E := by
  rcases h with ⟨rfl, hk, hc, _⟩ | ⟨rfl, _, hn⟩
  · exact ⟨fun h => (by cases h), fun h => absurd hc (h k)⟩
  · refine ⟨fun _ x hx => ?_, fun _ => rfl⟩
    obtain ⟨y, e, r⟩ := hx
    exact hn x (hE _ e).1 ⟨y, e, r⟩
/-- The document's answer for one host, its parents gone over as far as j. -/
def dR (fs : List Bool) (l : List Int) (j : Nat) : Nat := if (l.take j).any (fun p => !fl fs p.toNat) = true then 2 else 3
theorem dR_zero (fs : List Bool) (l : List Int) : dR fs l 0 = 3 := rfl
theorem dR_succ (fs : List Bool) (l : List Int) (j : Nat) (h : j < l.length) : dR fs l (j + 1) = if fl fs (l.getD j 0).toNat = false then 2 else dR fs l j := by
  unfold dR
  rw [take_succ_int h, List.any_append]
  generalize l.getD j 0 = p
  generalize (l.take j).any _ = b
  cases hf : fl fs p.toNat <;> cases b <;> simp [hf]
theorem natsA_upd2 (n x a b : Nat) (f : Nat → Nat) : natsA n (updN (updN f x a) x b) = natsA n (updN f x b) := natsA_congr fun j _ => by
  by_cases h : j = x
  · subst h; rw [updN_self, updN_self]
  · rw [updN_ne _ _ h, updN_ne _ _ h, updN_ne _ _ h]
theorem below_set {B : Nat} {W w : World} {j : Nat} (h : Below B W w) (v : Value) : Below B W (w.setCell ⟨B, j, none⟩ v) := below_put (p := ⟨B, j, none⟩) h (Nat.le_refl _) v
theorem dR_end {LL : List (List Int)} {fs : List Bool} {i : Nat} (hf : fl fs i = true) : stI LL fs i = if (Par LL i).length = 0 then 2 else dR fs (Par LL i) (Par LL i).length := by
  unfold stI dR
  rw [if_pos hf, List.take_length]
  by_cases h : Par LL i = []
  · rw [if_pos (.inl h), if_pos (by rw [h]; rfl)]
  · rw [if_neg (fun e => h (List.length_eq_zero_iff.1 e))]
    by_cases h2 : (Par LL i).any (fun p => !fl fs p.toNat) = true
    · rw [if_pos (.inr h2), if_pos h2]
    · rw [if_neg h2, if_neg (by rintro (h3 | h3); exact h h3; exact h2 h3)]
def RefHostsSaid (LL : List (List Int)) (fs : List Bool) (w : World) (y : Ending) (w' : World) : Prop :=
  (∃ v L e, y = .returned (.tuple #[v, .int .i64 e]) ∧ HostsIs LL fs e L ∧ RdI w' v w'.heap.size L ∧ L.length ≤ 1024) ∧ Below w.heap.size w w'
set_option maxRecDepth 100000 in
set_option maxHeartbeats 16000000 in
theorem refHosts_walk (u v : Value) (LL : List (List Int)) (fs : List Bool) (w : World) (hu : RdLL w u w.heap.size LL) (hv : RdB w v w.heap.size fs) (hfz : fs.length ≤ 9223372036854775807) (hLz : LL.length ≤ 9223372036854775807)
    (hsm : LL.length ≤ 1024 → LL.length ≤ 40 ∧ ∀ i, i < LL.length → (Par LL i).length ≤ 100) : Calls Tryd.prog 9 #[u, v] w (RefHostsSaid LL fs w) := by
  obtain ⟨A, cap, rfl⟩ := hu.form
  obtain ⟨A1, cap1, rfl⟩ := hv.form
  have HU := Lib.hid hu
  have HV := Lib.hid hv
  clear hu hv
  by_cases h1 : 1024 < LL.length
  · have h1' : (1024 : Int) < (LL.length : Int) := by omega
    have HIs := Lib.hid (show HostsIs LL fs 2 [] from .inl ⟨.inl h1, rfl, rfl⟩)
    clear h1 hsm
    go_enter Tryd.func9, Tryd.ntmps9
    go_wp2_with (fail)
    go_ret2
    exact ⟨⟨_, [], 2, rfl, HIs.out, .inl ⟨_, _, rfl, by simp, rfl⟩, Nat.zero_le _⟩, Below.refl _ _⟩
  have h1' : ¬ (1024 : Int) < (LL.length : Int) := by omega
  by_cases h2 : 1024 < fs.length
  · have h2' : (1024 : Int) < (fs.length : Int) := by omega
    have HIs := Lib.hid (show HostsIs LL fs 2 [] from .inl ⟨.inr h2, rfl, rfl⟩)
    clear h2 hsm
    go_enter Tryd.func9, Tryd.ntmps9
    go_wp2_with (fail)
    go_ret2
    exact ⟨⟨_, [], 2, rfl, HIs.out, .inl ⟨_, _, rfl, by simp, rfl⟩, Nat.zero_le _⟩, Below.refl _ _⟩
  have h2' : ¬ (1024 : Int) < (fs.length : Int) := by omega
  by_cases h3 : LL.length ≠ fs.length
  · have h3' : ((fs.length : Int) != (LL.length : Int)) = true := by simp; omega
    have HIs := Lib.hid (show HostsIs LL fs 1 [] from .inr ⟨by omega, .inl ⟨h3, rfl, rfl⟩⟩)
    clear h3 hsm
    go_enter Tryd.func9, Tryd.ntmps9
    go_wp2_with (fail)
    go_ret2
    exact ⟨⟨_, [], 1, rfl, HIs.out, .inl ⟨_, _, rfl, by simp, rfl⟩, Nat.zero_le _⟩, Below.refl _ _⟩
  have h3e : LL.length = fs.length := by omega
  have h3' : ((fs.length : Int) != (LL.length : Int)) = false := by simp; omega
  obtain ⟨hn40, hpl⟩ := hsm (by omega)
  have HPL := Lib.hid hpl
  have HMK := Lib.hid (show ∀ e L, ((¬ Ranged LL ∧ e = 5 ∧ L = []) ∨ (Ranged LL ∧ ((¬ Acyc (EW LL) ∧ e = 9 ∧ L = []) ∨ (Acyc (EW LL) ∧ e = 0 ∧ L = (List.range LL.length).map (fun i => (stI LL fs i : Int)))))) → HostsIs LL fs e L from
    fun e L h => .inr ⟨by omega, .inr ⟨h3e, h⟩⟩)
  obtain ⟨ii, hi0, hz0, hz1, hz2⟩ := info_parts info23
  clear h1 h2 h3 hpl hsm
  generalize hfn : fs.length = fn at *
  subst h3e
  generalize hn : LL.length = n at *
  go_enter Tryd.func9, Tryd.ntmps9
  go_upto_region 8 with (fail)
  go_loopw [7, 8, 9] (fun uv iv _ wr => ∃ (i : Nat) (E : Ways), iv = .int .i64 i ∧ i ≤ n ∧ WIs LL i [] E ∧ E.length ≤ 100 * i ∧ (∀ j, j < i → ∀ p, p ∈ Par LL j → 0 ≤ p ∧ p < (n : Int)) ∧ wr.ownsRow w.heap.size 55 2 uv E.length (cells2 E) ∧ Below w.heap.size w wr) (fun _ iv _ _ => n - (intOf iv).toNat)
  case atStart => exact ⟨0, [], rfl, Nat.zero_le _, WIs.zero LL, Nat.zero_le _, fun j hj => by omega, World.ownsRow_nil _ _ _ _, Below.refl _ _⟩
  case round =>
    obtain ⟨i, E, rfl, hi, hWI, hEl, hrg, own, bel⟩ := hrel
    have i0 : (0 : Int) ≤ i := by omega
    have HWI := Lib.hid hWI
    have HRG := Lib.hid hrg
    have HOW := Lib.hid own
    have BEL := Lib.hid bel
    clear hWI hrg own bel
    by_cases hlt : i < n
    · have hlt' : (i : Int) < (n : Int) := by omega
      have hltL : i < LL.length := by omega
      have hll := HPL.out i hlt
      obtain ⟨l, hl⟩ : ∃ l, Par LL i = l := ⟨_, rfl⟩
      rw [hl] at hll
      have HLI := Lib.hid hl
      have HROW := Lib.hid (show ∃ g o A2 c2, A = some ⟨g, o, none⟩ ∧ w.cell? ⟨g, o + i, none⟩ = some (.slice A2 l.length c2) ∧ RdI w (.slice A2 l.length c2) w.heap.size l by
        have := HU.out
        rw [← hn] at this
        have := this.cell hltL
        rw [show LL.getD i [] = l from hl] at this; exact this)
      obtain ⟨g, o, A2, c2, rfl, p0, hI⟩ := HROW.out
      have zg0 := World.block_lt_of_cell? _ _ p0
      have HI := Lib.hid hI
      have HP0 := Lib.hid p0
      clear hl hI HROW p0
      go_upto_region 11 with (fail)
      go_loopw [7, 9] (fun uv kv w4 => ∃ (k : Nat) (F : Ways), kv = .int .i64 k ∧ k ≤ l.length ∧ WIs LL i (l.take k) F ∧ F.length ≤ 100 * i + k ∧ (∀ p, p ∈ l.take k → 0 ≤ p ∧ p < (n : Int)) ∧ w4.ownsRow w.heap.size 55 2 uv F.length (cells2 F) ∧ Below w.heap.size w w4) (fun _ kv _ => l.length - (intOf kv).toNat)
      case atStart => exact ⟨0, E, rfl, Nat.zero_le _, HWI.out, by omega, fun p hp => by simp at hp, HOW.out, BEL.out⟩
      case round =>
        obtain ⟨w4, rfl⟩ : ∃ Z, Z = wr := ⟨_, rfl⟩
        obtain ⟨k, F, rfl, hk, hWF, hFl, hrk, own, bel⟩ := hrel
        have k0 : (0 : Int) ≤ k := by omega
        have HWF := Lib.hid hWF
        have HRK := Lib.hid hrk
        have HOW := Lib.hid own
        have BEL := Lib.hid bel
        have p0 := (bel.cell (p := ⟨g, o + i, none⟩) zg0).trans HP0.out
        have zp := World.block_lt_of_cell? _ _ p0
        clear hWF hrk own bel
        by_cases hkl : k < l.length
        · have hkl' : (k : Int) < (l.length : Int) := by omega
          obtain ⟨g2, o2, rfl, c0⟩ := (HI.out.below BEL.out (Nat.le_refl _)).cell hkl
          have z0 := World.block_lt_of_cell? _ _ c0
          have HTK := Lib.hid (take_succ_int hkl)
          have HMEM := Lib.hid (show l.getD k 0 ∈ Par LL i by
            rw [HLI.out]
            rw [List.getD_eq_getElem?_getD, List.getElem?_eq_getElem hkl]; exact List.getElem_mem _)
          generalize l.getD k 0 = p at *
          by_cases hp : 0 ≤ p ∧ p < (n : Int)
          · obtain ⟨hp0, hp1⟩ := hp
            have hp0' : ¬ p < 0 := by omega
            have hp1' : ¬ (n : Int) ≤ p := by omega
            have HWS := Lib.hid (HWF.out.snoc p)
            obtain ⟨q, rfl⟩ : ∃ q : Nat, p = (q : Int) := ⟨p.toNat, by omega⟩
            rw [Int.toNat_natCast] at HWS
            have hva := HOW.out.alloc (.cells #[.int .i64 (q : Int), .int .i64 (i : Int)] 55)
            have hnw := Lib.hid (World.news_of_block (cs := #[.int .i64 (q : Int), .int .i64 (i : Int)]) (t := 55) (fr := (0, 0)) (heap_alloc_new w4 (.cells #[.int .i64 (q : Int), .int .i64 (i : Int)] 55)))
            have hsz4 : w.heap.size ≤ (w4.alloc (.cells #[.int .i64 (q : Int), .int .i64 (i : Int)] 55)).heap.size := by have := BEL.out.size; simp; omega
            go_wp2_with (at_builtin; refine wpList_append_own_at _ rfl _ _ 49 rfl w.heap.size 55 ii (.agg #[.int .i64 0, .int .i64 0]) 2 16 Tryd.underlying49 hi0 hz0 hz1 hz2 rfl (by decide) _ F.length (cells2 F) rfl hva ⟨w4.heap.size, 0, none⟩ 1 1 [.int .i64 (q : Int), .int .i64 (i : Int)] rfl rfl hnw.out (by simp [Value.oneCell']) (by simp only [maxLen]; omega) (by omega) hsz4 ?_; intro v5 w5 own5 gr5 nil5 at5)
            have B5 := Lib.hid (below_grown' (BEL.out.alloc BEL.out.size _) gr5 (fun k e => (HOW.out.lt k e).1) hsz4)
            rw [← cells2_snoc, show F.length + 1 = (F ++ [(q, i)]).length by simp] at own5
            have HO5 := Lib.hid own5
            clear own5 gr5 nil5 at5 hva hsz4 c0 z0
            go_wp2
            go_roundw
            case rel => exact ⟨k + 1, F ++ [(q, i)], by go_num, by omega, by rw [HTK.out]; exact HWS.out, by simp; omega, fun p hp => by
              rw [HTK.out] at hp
              rcases List.mem_append.1 hp with hp | hp
              · exact HRK.out p hp
              · cases List.mem_singleton.1 hp; exact ⟨hp0, hp1⟩, HO5.out, B5.out⟩
            case measure => simp [intOf]; omega
          · have HIs := Lib.hid (HMK.out 5 [] (.inl ⟨fun hr => hp (by have := hr i (by omega) p HMEM.out; rw [hn] at this; exact this), rfl, rfl⟩))
            by_cases hp0 : p < 0
            · clear hp
              go_wp2_with (fail)
              go_ret2
              exact ⟨⟨_, [], 5, rfl, HIs.out, .inl ⟨_, _, rfl, by simp, rfl⟩, Nat.zero_le _⟩, BEL.out⟩
            · have hp1 : (n : Int) ≤ p := by omega
              clear hp
              go_wp2_with (fail)
              go_ret2
              exact ⟨⟨_, [], 5, rfl, HIs.out, .inl ⟨_, _, rfl, by simp, rfl⟩, Nat.zero_le _⟩, BEL.out⟩
        · obtain rfl : k = l.length := by omega
          have HWN := Lib.hid (show WIs LL (i + 1) [] F from WIs.next (by have := HWF.out; rwa [List.take_length] at this) (by rw [HLI.out]; exact fun p => Iff.rfl))
          have HRN := Lib.hid (show ∀ j, j < i + 1 → ∀ p, p ∈ Par LL j → 0 ≤ p ∧ p < (n : Int) from fun j hj p hp => by
            by_cases hji : j = i
            · subst hji
              exact HRK.out p (by rw [List.take_length, ← HLI.out]; exact hp)
            · exact HRG.out j (by omega) p hp)
          go_wp2_with (fail)
          go_roundw
          case rel => exact ⟨i + 1, F, by go_num, by omega, HWN.out, by omega, HRN.out, HOW.out, BEL.out⟩
          case measure => simp [intOf]; omega
    · have hin : i = n := by omega
      subst hin
      have hrgd : Ranged LL := fun j hj p hp => by have := HRG.out j (by omega) p hp; rw [hn]; exact this
      have hWI : WIs LL LL.length [] E := by rw [hn]; exact HWI.out
      have hb := hWI.bound hrgd
      rw [hn] at hb
      have hpr := Pairs.of_owns2 HOW.out (by omega)
      obtain ⟨A3, c3, hAe⟩ : ∃ A3 c3, u7 = .slice A3 E.length c3 := by
        rcases HOW.out.2 with ⟨e, h0⟩ | ⟨g, cap, cur, e, _⟩
        · exact ⟨_, _, by rw [e, h0]⟩
        · exact ⟨_, _, e⟩
      subst hAe
      have LD := Lib.hid (refLoop_walk i A3 c3 E wr hpr hb (by omega) (by omega))
      have HAC := Lib.hid (Acyc.same hWI.all)
      have HRD := Lib.hid hrgd
      have HBD := Lib.hid hb
      clear hrgd hWI hb HRG HWI HOW hpr
      go_wp2_with (fail)
      refine LD.out.mono ?_
      rintro x w2 ⟨k, is, hlp, rfl, B2⟩
      have HLP := Lib.hid (loopis_acyc hlp HBD.out)
      have B3 := Lib.hid (below_trans BEL.out B2)
      clear LD hlp B2 BEL
      cases is with
      | true =>
        have HIs := Lib.hid (HMK.out 9 [] (.inr ⟨HRD.out, .inl ⟨fun ha => absurd (HLP.out.2 (HAC.out.2 ha)) (by decide), rfl, rfl⟩⟩))
        have hk0 : (0 : Int) ≤ (k : Int) := by omega
        rw [if_pos rfl]
        go_wp2_with (fail)
        go_ret2
        exact ⟨⟨_, [], 9, rfl, HIs.out, .inl ⟨_, _, rfl, by simp, rfl⟩, Nat.zero_le _⟩, B3.out⟩
      | false =>
        have HIs := Lib.hid (HMK.out 0 _ (.inr ⟨HRD.out, .inr ⟨HAC.out.1 (HLP.out.1 rfl), rfl, rfl⟩⟩))
        rw [if_neg (by decide)]
        have hmk := fun W => make_walk i (by omega) W
        have HV2 := Lib.hid (show RdB w2 (.slice A1 fs.length cap1) w2.heap.size fs by rw [hfn]; exact (HV.out.below B3.out (Nat.le_refl _)).wider B3.out.size)
        have HU2 := Lib.hid (show RdLL w2 (.slice A LL.length cap) w2.heap.size LL by rw [hn]; exact (HU.out.below B3.out (Nat.le_refl _)).wider B3.out.size)
        have hb0 := Lib.hid (Blk.new w2 3 (natsA i (fun _ => 0)))
        have hbl := Lib.hid (below_al (Below.refl w2.heap.size w2) (.cells (natsA i (fun _ => 0)) 3))
        clear HLP HAC
        generalize hgo : w2.heap.size = go at *
        go_upto_region 20 with (fail)
        generalize w2.alloc (Obj.cells (natsA i fun x => 0) 3) = w3 at *
        clear hmk
        go_loopw [11, 12, 13] (fun kv _ _ wl => ∃ (kk : Nat) (f : Nat → Nat), kv = .int .i64 kk ∧ kk ≤ i + 1 ∧ (0 < kk → ∀ j, j < i → f j = stI LL fs j) ∧ Blk wl go 3 (natsA i f) ∧ Below go w2 wl) (fun kv _ _ _ => i + 1 - (intOf kv).toNat)
        case atStart => exact ⟨0, _, rfl, Nat.zero_le _, fun h => by omega, hb0.out, hbl.out⟩
        case round =>
          obtain ⟨wl, rfl⟩ : ∃ Z, Z = wr := ⟨_, rfl⟩
          obtain ⟨kk, f, rfl, hkk, hf, hbo, bel⟩ := hrel
          have kk0 : (0 : Int) ≤ kk := by omega
          have HF := Lib.hid hf
          have HBO := Lib.hid hbo
          have BEL := Lib.hid bel
          clear hf hbo bel hb0 hbl
          by_cases hki : kk ≤ i
          · have hki' : (kk : Int) ≤ (i : Int) := by omega
            clear HF
            go_upto_region 23 with (fail)
            go_loopw [12, 13] (fun jv _ wl2 => ∃ (j : Nat) (f : Nat → Nat), jv = .int .i64 j ∧ j ≤ i ∧ (∀ x, x < j → f x = stI LL fs x) ∧ Blk wl2 go 3 (natsA i f) ∧ Below go w2 wl2) (fun jv _ _ => i - (intOf jv).toNat)
            case atStart => exact ⟨0, f, rfl, Nat.zero_le _, fun x hx => by omega, HBO.out, BEL.out⟩
            case round =>
              clear HBO BEL
              obtain ⟨wl, rfl⟩ : ∃ Z, Z = wr := ⟨_, rfl⟩
              obtain ⟨j, f, rfl, hj, hf, hbo, bel⟩ := hrel
              have j0 : (0 : Int) ≤ j := by omega
              have HF := Lib.hid hf
              by_cases hji : j < i
              · have hji' : (j : Int) < (i : Int) := by omega
                have o0 : wl.cell? ⟨go, j, none⟩ = some (.int .i64 ((f j : Nat) : Int)) := by rw [hbo.cell, natsA_get _ hji]
                have zo := World.block_lt_of_cell? _ _ o0
                have fz : wl.frozen? ⟨go, j, none⟩ = false := hbo.frozen j
                have NB := Lib.hid (hbo.put j (.int .i64 ((0 : Nat) : Int)) (natsA_set i j 0 f))
                have NL := Lib.hid (below_set (j := j) bel (.int .i64 ((0 : Nat) : Int)))
                clear hbo bel hf
                go_upto_region 26 with (fail)
                rw [show ((0 : Nat) : Int) = 0 from rfl] at NB NL
                generalize wl.setCell ⟨go, j, none⟩ (.int .i64 0) = wa at *
                clear o0 zo fz
                obtain ⟨gf, of, rfl, f0⟩ := (HV2.out.below NL.out (Nat.le_refl _)).cell (i := j) (by omega)
                have zf := World.block_lt_of_cell? _ _ f0
                obtain ⟨b, hbx⟩ : ∃ b, fs.getD j false = b := ⟨_, rfl⟩
                rw [hbx] at f0
                have HFX := Lib.hid (show fl fs j = b from hbx)
                clear hbx
                have HNX := Lib.hid (show ∀ v, stI LL fs j = v → ∀ x, x < j + 1 → updN f j v x = stI LL fs x from fun v hv x hx => by
                  by_cases h : x = j
                  · subst h; rw [updN_self, hv]
                  · rw [updN_ne _ _ h]; exact HF.out x (by omega))
                cases b with
                | false =>
                  have hs := (stI_zero LL fs j).2 HFX.out
                  have HN2 := Lib.hid (HNX.out 0 hs)
                  clear hs HNX
                  go_wp2_with (fail)
                  go_roundw
                  case rel => exact ⟨j + 1, _, by go_num, by omega, HN2.out, NB.out, NL.out⟩
                  case measure => simp [intOf]; omega
                | true =>
                  have hs := dR_end (LL := LL) HFX.out
                  have HS := Lib.hid hs
                  obtain ⟨gp, op, A6, c6, rfl, p0, hI⟩ := (HU2.out).cell (i := j) (by omega)
                  have zp0 := World.block_lt_of_cell? _ _ p0
                  rw [hgo] at zp0
                  rw [show LL.getD j [] = Par LL j from rfl] at p0 hI
                  have HI := Lib.hid hI
                  have HP0 := Lib.hid p0
                  have hll := HPL.out j hji
                  have HRJ := Lib.hid (HRD.out j (by omega))
                  clear hs hI p0
                  generalize hl : Par LL j = l at *
                  clear hl
                  have o0 : wa.cell? ⟨go, j, none⟩ = some (.int .i64 ((updN f j 0 j : Nat) : Int)) := by rw [NB.out.cell, natsA_get _ hji]
                  have zo := World.block_lt_of_cell? _ _ o0
                  have fz : wa.frozen? ⟨go, j, none⟩ = false := NB.out.frozen j
                  have NB3 := Lib.hid ((NB.out.put j (.int .i64 ((3 : Nat) : Int)) (natsA_set i j 3 _)))
                  have NL3 := Lib.hid (below_set (j := j) NL.out (.int .i64 ((3 : Nat) : Int)))
                  rw [natsA_upd2] at NB3
                  clear NB NL
                  go_upto_region 29 with (fail)
                  rw [show ((3 : Nat) : Int) = 3 from rfl] at NB3 NL3
                  generalize wa.setCell ⟨go, j, none⟩ (.int .i64 3) = wb at *
                  clear o0 zo fz f0 zf
                  go_loopw [13] (fun mv w5 => ∃ m : Nat, mv = .int .i64 m ∧ m ≤ l.length ∧ Blk w5 go 3 (natsA i (updN f j (dR fs l m))) ∧ Below go w2 w5) (fun mv _ => l.length - (intOf mv).toNat)
                  case atStart => exact ⟨0, rfl, Nat.zero_le _, NB3.out, NL3.out⟩
                  case round =>
                    obtain ⟨w5, rfl⟩ : ∃ Z, Z = wr := ⟨_, rfl⟩
                    obtain ⟨m, rfl, hm, hb5, bel5⟩ := hrel
                    have m0 : (0 : Int) ≤ m := by omega
                    have p5 := (bel5.cell (p := ⟨gp, op + j, none⟩) zp0).trans HP0.out
                    have z5 := World.block_lt_of_cell? _ _ p5
                    have o5 : w5.cell? ⟨go, j, none⟩ = some (.int .i64 ((updN f j (dR fs l m) j : Nat) : Int)) := by rw [hb5.cell, natsA_get _ hji]
                    have zo5 := World.block_lt_of_cell? _ _ o5
                    have fz5 : w5.frozen? ⟨go, j, none⟩ = false := hb5.frozen j
                    have HB5 := Lib.hid hb5
                    have BEL5 := Lib.hid bel5
                    clear hb5 bel5 NB3 NL3
                    by_cases hml : m < l.length
                    · have hml' : (m : Int) < (l.length : Int) := by omega
                      obtain ⟨gl, ol, rfl, l0⟩ := (HI.out.below BEL5.out (by omega)).cell hml
                      have zl := World.block_lt_of_cell? _ _ l0
                      have HDS := Lib.hid (dR_succ fs l m hml)
                      have hpr := HRJ.out (l.getD m 0) (by rw [List.getD_eq_getElem?_getD, List.getElem?_eq_getElem hml]; exact List.getElem_mem _)
                      obtain ⟨q, hq⟩ := Int.eq_ofNat_of_zero_le hpr.1
                      rw [hq] at l0 hpr HDS
                      rw [Int.toNat_natCast] at HDS
                      have q0 : (0 : Int) ≤ (q : Int) := by omega
                      have q1 : (q : Int) < (i : Int) := by omega
                      obtain ⟨b, hbx⟩ : ∃ b, fs.getD q false = b := ⟨_, rfl⟩
                      obtain ⟨gf2, of2, e2, f5⟩ := (HV2.out.below BEL5.out (Nat.le_refl _)).cell (i := q) (by omega)
                      cases e2
                      rw [hbx] at f5
                      have zf5 := World.block_lt_of_cell? _ _ f5
                      rw [show fl fs q = b from hbx] at HDS
                      clear hq hpr hbx
                      cases b with
                      | true =>
                        rw [if_neg (by decide)] at HDS
                        have HB6 := Lib.hid (show Blk w5 go 3 (natsA i (updN f j (dR fs l (m + 1)))) by rw [HDS.out]; exact HB5.out)
                        go_wp2_with (fail)
                        go_roundw
                        case rel => exact ⟨m + 1, by go_num, by omega, HB6.out, BEL5.out⟩
                        case measure => simp [intOf]; omega
                      | false =>
                        rw [if_pos rfl] at HDS
                        have HB6 := Lib.hid (show Blk (w5.setCell ⟨go, j, none⟩ (.int .i64 ((2 : Nat) : Int))) go 3 (natsA i (updN f j (dR fs l (m + 1)))) by
                          rw [HDS.out]; exact HB5.out.put j (.int .i64 ((2 : Nat) : Int)) ((natsA_set i j 2 _).trans (natsA_upd2 i j _ 2 f)))
                        have BL6 := Lib.hid (below_set (j := j) BEL5.out (.int .i64 ((2 : Nat) : Int)))
                        go_wp2_with (fail)
                        go_roundw
                        case rel => exact ⟨m + 1, by go_num, by omega, HB6.out, BL6.out⟩
                        case measure => simp [intOf]; omega
                    · obtain rfl : m = l.length := by omega
                      by_cases hl0 : l.length = 0
                      · have hl0' : ((l.length : Int) == 0) = true := by simp [hl0]
                        have hst : stI LL fs j = 2 := by rw [HS.out, if_pos hl0]
                        have HB6 := Lib.hid (HB5.out.put j (.int .i64 ((2 : Nat) : Int)) ((natsA_set i j 2 _).trans (natsA_upd2 i j _ 2 f)))
                        have BL6 := Lib.hid (below_set (j := j) BEL5.out (.int .i64 ((2 : Nat) : Int)))
                        have HN2 := Lib.hid (HNX.out 2 hst)
                        clear hst hl0
                        go_wp2_with (fail)
                        go_roundw
                        case rel => exact ⟨j + 1, _, by go_num, by omega, HN2.out, HB6.out, BL6.out⟩
                        case measure => simp [intOf]; omega
                      · have hl0' : ((l.length : Int) == 0) = false := beq_eq_false_iff_ne.2 (by omega)
                        have hst : stI LL fs j = dR fs l l.length := by rw [HS.out, if_neg hl0]
                        have HN2 := Lib.hid (HNX.out _ hst)
                        clear hst hl0
                        go_wp2_with (fail)
                        go_roundw
                        case rel => exact ⟨j + 1, _, by go_num, by omega, HN2.out, HB5.out, BEL5.out⟩
                        case measure => simp [intOf]; omega
              · have hje : j = i := by omega
                subst hje
                have HBO := Lib.hid hbo
                have BEL := Lib.hid bel
                clear hbo bel hf
                go_wp2_with (fail)
                go_roundw
                case rel => exact ⟨kk + 1, f, by go_num, by omega, fun _ => HF.out, HBO.out, BEL.out⟩
                case measure => simp [intOf]; omega
          · have hke : ¬ (kk : Int) ≤ (i : Int) := by omega
            have HFF := Lib.hid (show natsA i f = natsA i (stI LL fs) from natsA_congr (HF.out (by omega)))
            go_wp2_with (fail)
            go_ret2
            refine ⟨⟨_, _, 0, rfl, HIs.out, .inr ⟨go, 0, i, by simp [hn], HBO.out.lt, fun j hj => ?_⟩, by simp; omega⟩, ?_⟩
            · have hjk : j < i := by simpa [hn] using hj
              rw [Nat.zero_add, HBO.out.cell, HFF.out, natsA_get _ hjk]
              simp [List.getD_eq_getElem?_getD, hjk, hn]
            · exact B3.out.trans (BEL.out.mono (by have := B3.out.size; omega))
end Go.Proofs.YtbnnbhblfclomaaDoor
