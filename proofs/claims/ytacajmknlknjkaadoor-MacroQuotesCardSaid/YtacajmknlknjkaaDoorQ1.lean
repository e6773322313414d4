/- The law MacroQuotes, walked. -/
import Derived.Test.YtacajmknlknjkaaDoorP3
import Derived.Test.YtacajmknlknjkaaDoorD5
import Derived.Test.YtacajmknlknjkaaDoorD4
namespace Go.Proofs.YtacajmknlknjkaaDoor
open Go.RowKit
set_option linter.unusedVariables false
set_option linter.unusedSimpArgs false
theorem below_drew {B : Nat} {a w : World} (h : Below B a w) : Below B a w.drew := ⟨h.os, h.tape, h.output, h.size, h.block⟩
theorem step_append_m {w : World} {ops : Array Oper} {o : Oper} {a : Act} {K : Act → World → Prop} {Q : Exit → Act → World → Prop} {F : Prop} (hgd : o.guard = none) (s x : Operand)
    (ho : o.op = .call { callee := .builtin .append, args := #[s, x], argTypes := #[29, 29] }) (B : Nat) (v : Value) (E0 : List Mc) (e : Mc) (ad : Addr) (cap : Nat)
    (hs : a.eval s = v) (hx : a.eval x = .slice (some ad) 1 cap) (hown : w.ownsRow B 37 2 v E0.length (cellsM E0)) (hnews : ∀ j u, (cellsM1 e)[j]? = some u → w.cell? (ad.add j) = some u) (hb : E0.length + 1 ≤ 1048576) (hB : B ≤ w.heap.size)
    (h : ∀ v' w', w'.ownsRow B 37 2 v' (E0.length + 1) (cellsM (E0 ++ [e])) → w.grownBy w' v.ownBlock → K (a.put o.dst v') w') :
    if Region.wanted o (yielded ops a.tmps) = true then Oper.wp Tryd.prog o a w K Q else F := by
  obtain ⟨i0, hi0, hz0, hz1, hz2⟩ := info_parts info37
  have hw : Region.wanted o (yielded ops a.tmps) = true := by simp [Region.wanted, hgd]
  rw [if_pos hw]
  obtain ⟨v', w', hr, h2, h3, _, h5⟩ := run_append_own_at (P := Tryd.prog) w B 29 o.type 37 i0 (.agg #[.string ByteArray.empty, .string ByteArray.empty]) 2 32 Tryd.underlying29 hi0 hz0 hz1 hz2 rfl (by decide) v E0.length (cellsM E0) hown ad 1 cap (cellsM1 e) rfl hnews (by have := cellsM_one [e]; simpa [cellsM] using this) (by simp only [maxLen]; omega) (by omega) hB
  unfold Oper.wp execOp
  simp only [ho, resolve, invoke, builtin, Sem.run_bind, Sem.run_pure, Result.andThen_ok, List.map_toArray, List.map_cons, List.map_nil, hs, hx, hr]
  refine h v' w' ?_ h3
  rw [cellsM_snoc]; exact h2
theorem nmF_mem : ∀ (ps o : List (List UInt8)) (k : Nat), ∀ n ∈ nmF k ps o, n ∈ o ∨ n ∈ ps
  | [], o, k, n, h => .inl h
  | p :: r, o, k, n, h => by
    rw [nmF] at h
    rcases nmF_mem r _ (k + 1) n h with h | h
    · split at h
      · rcases nmStep_mem h with h | h
        · exact .inl h
        · subst h; exact .inr List.mem_cons_self
      · exact .inl h
    · exact .inr (List.mem_cons_of_mem _ h)
theorem names_le {l : List UInt8} (h : l.count 36 % 2 = 0) : ∀ n ∈ namesB l, n.length ≤ l.length := by
  rw [names_pcs l h]
  intro n hn
  rcases nmF_mem _ _ _ n hn with h | h
  · cases h
  · exact pcs_le l n h
theorem ownM_take (L : List ByteArray) (i : Nat) (h : i < L.length) : ownM (L.take (i + 1)) = ownM (L.take i) ++ [⟨L.getD i ByteArray.empty, ⟨#[60]⟩ ++ L.getD i ByteArray.empty ++ ⟨#[62]⟩⟩] := by
  unfold ownM; rw [takeS_succ h, List.map_append]; rfl
theorem drop_byte (s : ByteArray) (i : Nat) (h : i < s.size) : s.data.toList.drop i = s[i] :: s.data.toList.drop (i + 1) := by
  have h' : i < s.data.toList.length := by rw [sz_len]; exact h
  rw [List.drop_eq_getElem_cons h']; rfl
section
variable {P : Program} {ops : Array Oper} {Q : Exit → Act → World → Prop} {md : Region.Mode} {S : World → Prop}
theorem op_at {i : Nat} {oi : Oper} (h : ops.toList[i]? = some oi) : ops[i]? = some oi := by rw [← Array.getElem?_toList]; exact h
/-- The i-th operation comes up, runs, and yields v in every world that meets S. -/
theorem reg_take {i : Nat} {oi : Oper} {v : Value} {fuel : Nat} {listed : Array Bool} {a : Act} {w : World} (hi : ops.toList[i]? = some oi)
    (hs : Region.noSelect ops = true) (hf : Region.free md ops listed i = true) (hr : (Region.ready md ops listed).contains i = true)
    (hQ : ∀ c a w, Q (.panic c) (a.put oi.dst v) w → Q (.panic c) a w) (hw : Region.wanted oi (yielded ops a.tmps) = true) (hy : ∀ w, S w → (execOp a.eval oi).run P w = .ok (.value v) w) (hS : S w)
    (h : wpAnyH P md ops Q S fuel (listed.setIfInBounds i true) (a.put oi.dst v) w) : wpAnyH P md ops Q S (fuel + 1) listed a w :=
  wpAnyH_take (op_at hi) hs hf hr hQ (Or.inl ⟨hw, hy⟩) hS h
/-- The i-th operation comes up, and is left out. -/
theorem reg_skip {i : Nat} {oi : Oper} {fuel : Nat} {listed : Array Bool} {a : Act} {w : World} (hi : ops.toList[i]? = some oi)
    (hs : Region.noSelect ops = true) (hf : Region.free md ops listed i = true) (hr : (Region.ready md ops listed).contains i = true)
    (hQ : ∀ c a w, Q (.panic c) (a.put oi.dst undef) w → Q (.panic c) a w) (hw : Region.wanted oi (yielded ops a.tmps) = false) (hS : S w)
    (h : wpAnyH P md ops Q S fuel (listed.setIfInBounds i true) (a.put oi.dst undef) w) : wpAnyH P md ops Q S (fuel + 1) listed a w :=
  wpAnyH_take (op_at hi) hs hf hr hQ (Or.inr ⟨hw, rfl⟩) hS h
theorem reg_each {fuel : Nat} {listed : Array Bool} {a : Act} {w : World} {i : Nat} {o : Oper} {rs : List Nat} (ho : ops.toList[i]? = some o)
    (h : ∀ K' : Act → World → Prop, Shut (∀ a w, S w → (S w → wpAnyH P md ops Q S fuel (listed.setIfInBounds i true) a w) → K' a w) → if Region.wanted o (yielded ops a.tmps) = true then Oper.wp P o a w K' Q else K' (a.put o.dst undef) w)
    (hs : AllReadyH P md ops Q S fuel listed a w rs) : AllReadyH P md ops Q S fuel listed a w (i :: rs) := AllReadyH.cons (op_at ho) h hs
end
set_option maxRecDepth 100000 in
set_option maxHeartbeats 8000000 in
theorem quotes_walk (s : ByteArray) (v : Value) (L : List Mc) (w : World) (hg : ErrType w) (hm : MaxL w) (hL : RdM w v w.heap.size L) (hl : L.length ≤ 9223372036854775807) (hs : s.size ≤ 9223372036854775807) :
    Calls Tryd.prog 7 #[.string s, v] w fun y w' => y = .returned (.bool true) ∧ Below w.heap.size w w' := by
  obtain ⟨A, cap, rfl⟩ := hL.form
  have HI := Lib.hid hL
  have HG := Lib.hid hg
  have HM := Lib.hid hm
  have hsl := sz_len s
  clear hL hg hm
  by_cases h1 : 2000 < s.size
  · have h1' : (2000 : Int) < (s.size : Int) := by omega
    clear hsl
    go_enter Tryd.func7, Tryd.ntmps7
    go_wp2_with (fail)
    refine (sure_walk _ HM.out).mono ?_
    rintro y w2 ⟨rfl, B2⟩
    go_wp2
    go_ret
    exact ⟨rfl, B2⟩
  have h1' : ¬ (2000 : Int) < (s.size : Int) := by omega
  have HU := Lib.hid (huge_walk _ L hl w HI.out)
  have HSL := Lib.hid hsl
  clear hsl
  go_enter Tryd.func7, Tryd.ntmps7
  go_wp2_with (fail)
  refine HU.out.mono ?_
  rintro y w1 ⟨⟨b, rfl, hb⟩, B1⟩
  have BH1 := Lib.hid B1
  have HM1 := Lib.hid (HM.out.below B1)
  clear HU
  cases b with
  | true =>
    clear hb B1
    go_wp2_with (fail)
    refine (sure_walk _ HM1.out).mono ?_
    rintro y w2 ⟨rfl, B2⟩
    have B3 := below_trans BH1.out B2
    go_wp2
    go_ret
    exact ⟨rfl, B3⟩
  | false =>
    obtain ⟨hl60, hsz⟩ := hb rfl
    have HI1 := Lib.hid ((HI.out.below B1 (Nat.le_refl _)).wider B1.size)
    have HG1 := Lib.hid (HG.out.below B1)
    obtain ⟨m1, hm1⟩ := HM1.out
    have QW := Lib.hid (quote_walk s w1 m1 hm1 (by omega))
    have hcl := List.count_le_length (a := (36 : UInt8)) (l := s.data.toList)
    have hql := quF_len s.data.toList
    have hrn := quF_run L s.data.toList [] []
    rw [HSL.out] at hcl hql
    have HQE := Lib.hid (show quE s.data.toList = 0 by unfold quE; rw [if_neg (by omega)])
    have HEE := Lib.hid (show expE L (quF s.data.toList) = 0 by
      unfold expE expB; rw [if_neg (by omega), if_neg (by have := hrn.2; omega), hrn.1, List.nil_append, HSL.out, if_neg (by omega)])
    have HEO := Lib.hid (show expO L (quF s.data.toList) = s.data.toList by
      unfold expO; rw [HEE.out, if_pos rfl]; unfold expB; rw [hrn.1]; rfl)
    have HQL := Lib.hid (show (quF s.data.toList).length ≤ 4000 by omega)
    clear hb B1 hsz HI HG HM hm1 hcl hql hrn
    go_wp2_with (fail)
    refine QW.out.mono ?_
    rintro y w2 ⟨⟨z1, rfl, hz1⟩, B2⟩
    rw [HQE.out]
    simp only [errE0]
    have hz1' : z1.data.toList = quF s.data.toList := by rw [hz1]; unfold quO; rw [HQE.out, if_pos rfl]
    have HZ1 := Lib.hid hz1'
    have hz1s : z1.size ≤ 4000 := by rw [← sz_len, hz1']; exact HQL.out
    have HI2 := Lib.hid ((HI1.out.below B2 (Nat.le_refl _)).wider B2.size)
    have HG2 := Lib.hid (HG1.out.below B2)
    have HM2 := Lib.hid (HM1.out.below B2)
    have BH2 := Lib.hid (below_trans BH1.out B2)
    have GV := Lib.hid (give_walk _ L (by omega) w2 HI2.out)
    clear QW hz1 hz1' B2 HI1 HG1 HM1 BH1
    go_wp2_with (fail)
    refine GV.out.mono ?_
    rintro y w3 ⟨v3, rfl, own3, B3⟩
    have HIt := RdM.of_owns own3 rfl (Nat.le_refl w3.heap.size)
    obtain ⟨m3, hm3⟩ := HM2.out.below B3
    have EX := Lib.hid (expand_walk z1 v3 L w3 m3 hm3 HIt (by omega) (by omega))
    have HG3 := Lib.hid (HG2.out.below B3)
    have HM3 := Lib.hid (HM2.out.below B3)
    have BH3 := Lib.hid (below_trans BH2.out B3)
    clear own3 B3 HIt hm3 GV BH2 HI2 HG2 HM2
    go_wp2_with (fail)
    refine EX.out.mono ?_
    rintro y w4 ⟨⟨z2, rfl, hz2⟩, B4⟩
    rw [HZ1.out] at hz2
    rw [HZ1.out, HEE.out]
    simp only [errE0]
    rw [HEO.out] at hz2
    obtain rfl : z2 = s := ba_inj hz2
    have hq : (z2.toList == z2.toList) = true := by simp
    have hq2 : (z2.toList != z2.toList) = false := by simp
    have HG4 := Lib.hid (HG3.out.below B4)
    have HM4 := Lib.hid (HM3.out.below B4)
    have BH4 := Lib.hid (below_trans BH3.out B4)
    obtain ⟨m4, hm4⟩ := HM4.out
    have NW := Lib.hid (names14_walk z2 w4 m4 hm4 (by omega) (fun p hp => by have h := pcs_le z2.data.toList p hp; have := HSL.out; omega))
    clear EX hz2 B4 HG3 HM3 BH3 hm4 HZ1 HEE HEO hz1s HQE HQL
    go_wp2_with (fail)
    refine NW.out.mono ?_
    rintro y w5 ⟨⟨v5, Lk, rfl, hLk, hLkl, own5⟩, B5⟩
    have HS5 := Lib.hid (RdS.of_owns own5 rfl (Nat.le_refl w5.heap.size))
    have HG5 := Lib.hid (HG4.out.below B5)
    have HM5 := Lib.hid (HM4.out.below B5)
    have BH5 := Lib.hid (below_trans BH4.out B5)
    clear NW own5 B5 HG4 HM4 BH4 hq hq2
    by_cases hodd : z2.data.toList.count 36 % 2 = 1
    · have HE := Lib.hid (show namesE z2.data.toList = 3 by unfold namesE; rw [if_neg (by have := HSL.out; omega), if_pos hodd])
      rw [HE.out]
      simp only [errE3]
      go_wp2_with (fail)
      refine (num_hit 3 _ HG5.out).mono ?_
      rintro y w6 ⟨rfl, B6⟩
      have HM6 := Lib.hid (HM5.out.below B6)
      have BH6 := Lib.hid (below_trans BH5.out B6)
      go_wp2_with (fail)
      refine (sure_walk _ HM6.out).mono ?_
      rintro y w7 ⟨rfl, B7⟩
      have B8 := below_trans BH6.out B7
      go_wp2
      go_ret
      exact ⟨rfl, B8⟩
    have HE := Lib.hid (show namesE z2.data.toList = 0 by unfold namesE; rw [if_neg (by have := HSL.out; omega), if_neg hodd])
    have hnb : Lk.map (·.data.toList) = namesB z2.data.toList := by rw [hLk]; unfold namesO; rw [HE.out, if_pos rfl]
    have HBZ := Lib.hid (show ∀ i, i < Lk.length → (Lk.getD i ByteArray.empty).size ≤ 2000 from fun i hi => by
      have hmem : (Lk.getD i ByteArray.empty).data.toList ∈ namesB z2.data.toList := by
        rw [← hnb]; exact mem_getS.2 ⟨i, hi, rfl⟩
      have := names_le (by omega) _ hmem
      rw [sz_len] at this; have := HSL.out; omega)
    have HOW := Lib.hid (own_want (L := Lk) (l := z2.data.toList) (by omega) hnb)
    have HOE := Lib.hid (show expE (ownM Lk) z2.data.toList = 0 by
      unfold expE
      rw [if_neg (by have := HSL.out; omega), if_neg hodd, HOW.out, if_neg (by have h1 := wantF_le z2.data.toList false; have h2 := HSL.out; omega)])
    have HOO := Lib.hid (show expO (ownM Lk) z2.data.toList = wantF false z2.data.toList by unfold expO; rw [HOE.out, if_pos rfl, HOW.out])
    rw [HE.out]
    simp only [errE0]
    clear hLk hnb hodd HE
    obtain ⟨A5, cap5, e5⟩ := HS5.out.form
    subst e5
    go_upto_region 12 with (fail)
    go_loopw [11, 12] (fun uv iv wr => ∃ i : Nat, iv = .int .i64 i ∧ i ≤ Lk.length ∧ wr.ownsRow w5.heap.size 37 2 uv (ownM (Lk.take i)).length (cellsM (ownM (Lk.take i))) ∧ Below w5.heap.size w5 wr) (fun _ iv _ => Lk.length - (intOf iv).toNat)
    case atStart => exact ⟨0, rfl, Nat.zero_le _, World.ownsRow_nil _ _ _ _, Below.refl _ _⟩
    case round =>
      obtain ⟨i, rfl, hi, own, bel⟩ := hrel
      have i0 : (0 : Int) ≤ i := by omega
      have HON := Lib.hid own
      have BEL := Lib.hid bel
      clear own bel
      by_cases hlt : i < Lk.length
      · have hlt' : (i : Int) < (Lk.length : Int) := by omega
        rcases HS5.out with ⟨_, hl0⟩ | ⟨g, cp, e, hcp, hg, hh⟩
        · rw [hl0] at hlt; simp at hlt
        cases e
        have X0 := hh i hlt
        have hbz := HBZ.out i hlt
        have HTK := Lib.hid (ownM_take Lk i hlt)
        have HLN := Lib.hid (show (ownM (Lk.take i)).length = i by unfold ownM; rw [List.length_map, List.length_take]; omega)
        generalize Lk.getD i ByteArray.empty = nm at *
        have zp : g < w5.heap.size := hg
        have hnw := Lib.hid (World.news_of_block (cs := #[.string nm, .string (⟨#[60]⟩ ++ nm ++ ⟨#[62]⟩)]) (t := 37) (fr := (0, 0)) (heap_alloc_new wr (.cells #[.string nm, .string (⟨#[60]⟩ ++ nm ++ ⟨#[62]⟩)] 37)))
        have hb1 : ¬ 9223372036854775807 < 1 + nm.size := by omega
        have hb2 : ¬ 9223372036854775807 < 1 + nm.size + 1 := by omega
        clear hh
        go_upto_region 14 with (fail)
        refine wp_region_noPanic ?_
        refine wp_region_held_drew (S := (fun w' => Below w5.heap.size w5 w')) (by kernel_rfl) ?_ (fun hHeld => ?_)
        · exact below_drewN BEL.out 1
        refine reg_take (i := 0) (oi := _) (v := ?_) rfl (by kernel_rfl) (by kernel_rfl) (by kernel_rfl) (fun _ _ _ h => h) (by rfl) ?_ (by assumption) ?_
        rotate_left
        · intro w hSw; (try dsimp only at hSw); replace X0 := bel_cell hSw X0; replace zp := Nat.lt_of_lt_of_le zp hSw.size; go_simp; try with_reducible rfl
        (try simp only [Act.put, List.setIfInBounds_toArray, List.set_cons_zero, List.set_cons_succ])
        refine reg_take (i := 1) (oi := _) (v := ?_) rfl (by kernel_rfl) (by kernel_rfl) (by kernel_rfl) (fun _ _ _ h => h) (by rfl) ?_ (by assumption) ?_
        rotate_left
        · intro w hSw; (try dsimp only at hSw); replace X0 := bel_cell hSw X0; replace zp := Nat.lt_of_lt_of_le zp hSw.size; go_simp; try with_reducible rfl
        (try simp only [Act.put, List.setIfInBounds_toArray, List.set_cons_zero, List.set_cons_succ])
        refine reg_take (i := 2) (oi := _) (v := ?_) rfl (by kernel_rfl) (by kernel_rfl) (by kernel_rfl) (fun _ _ _ h => h) (by rfl) ?_ (by assumption) ?_
        rotate_left
        · intro w hSw; (try dsimp only at hSw); replace X0 := bel_cell hSw X0; replace zp := Nat.lt_of_lt_of_le zp hSw.size; go_simp; try with_reducible rfl
        (try simp only [Act.put, List.setIfInBounds_toArray, List.set_cons_zero, List.set_cons_succ])
        refine reg_take (i := 3) (oi := _) (v := ?_) rfl (by kernel_rfl) (by kernel_rfl) (by kernel_rfl) (fun _ _ _ h => h) (by rfl) ?_ (by assumption) ?_
        rotate_left
        · intro w hSw; (try dsimp only at hSw); replace X0 := bel_cell hSw X0; replace zp := Nat.lt_of_lt_of_le zp hSw.size; go_simp; try with_reducible rfl
        (try simp only [Act.put, List.setIfInBounds_toArray, List.set_cons_zero, List.set_cons_succ])
        refine reg_take (i := 4) (oi := _) (v := ?_) rfl (by kernel_rfl) (by kernel_rfl) (by kernel_rfl) (fun _ _ _ h => h) (by rfl) ?_ (by assumption) ?_
        rotate_left
        · intro w hSw; (try dsimp only at hSw); replace X0 := bel_cell hSw X0; replace zp := Nat.lt_of_lt_of_le zp hSw.size; go_simp; try with_reducible rfl
        (try simp only [Act.put, List.setIfInBounds_toArray, List.set_cons_zero, List.set_cons_succ])
        refine reg_take (i := 5) (oi := _) (v := ?_) rfl (by kernel_rfl) (by kernel_rfl) (by kernel_rfl) (fun _ _ _ h => h) (by rfl) ?_ (by assumption) ?_
        rotate_left
        · intro w hSw; (try dsimp only at hSw); replace X0 := bel_cell hSw X0; replace zp := Nat.lt_of_lt_of_le zp hSw.size; go_simp; try with_reducible rfl
        (try simp only [Act.put, List.setIfInBounds_toArray, List.set_cons_zero, List.set_cons_succ])
        refine reg_take (i := 6) (oi := _) (v := ?_) rfl (by kernel_rfl) (by kernel_rfl) (by kernel_rfl) (fun _ _ _ h => h) (by rfl) ?_ (by assumption) ?_
        rotate_left
        · intro w hSw; (try dsimp only at hSw); replace X0 := bel_cell hSw X0; replace zp := Nat.lt_of_lt_of_le zp hSw.size; go_simp; try with_reducible rfl
        (try simp only [Act.put, List.setIfInBounds_toArray, List.set_cons_zero, List.set_cons_succ])
        refine reg_take (i := 7) (oi := _) (v := ?_) rfl (by kernel_rfl) (by kernel_rfl) (by kernel_rfl) (fun _ _ _ h => h) (by rfl) ?_ (by assumption) ?_
        rotate_left
        · intro w hSw; (try dsimp only at hSw); replace X0 := bel_cell hSw X0; replace zp := Nat.lt_of_lt_of_le zp hSw.size; go_simp; try with_reducible rfl
        (try simp only [Act.put, List.setIfInBounds_toArray, List.set_cons_zero, List.set_cons_succ])
        refine reg_take (i := 8) (oi := _) (v := ?_) rfl (by kernel_rfl) (by kernel_rfl) (by kernel_rfl) (fun _ _ _ h => h) (by rfl) ?_ (by assumption) ?_
        rotate_left
        · intro w hSw; (try dsimp only at hSw); replace X0 := bel_cell hSw X0; replace zp := Nat.lt_of_lt_of_le zp hSw.size; go_simp; try with_reducible rfl
        (try simp only [Act.put, List.setIfInBounds_toArray, List.set_cons_zero, List.set_cons_succ])
        refine reg_take (i := 9) (oi := _) (v := ?_) rfl (by kernel_rfl) (by kernel_rfl) (by kernel_rfl) (fun _ _ _ h => h) (by rfl) ?_ (by assumption) ?_
        rotate_left
        · intro w hSw; (try dsimp only at hSw); replace X0 := bel_cell hSw X0; replace zp := Nat.lt_of_lt_of_le zp hSw.size; go_simp; try with_reducible rfl
        (try simp only [Act.put, List.setIfInBounds_toArray, List.set_cons_zero, List.set_cons_succ])
        refine reg_take (i := 10) (oi := _) (v := ?_) rfl (by kernel_rfl) (by kernel_rfl) (by kernel_rfl) (fun _ _ _ h => h) (by rfl) ?_ (by assumption) ?_
        rotate_left
        · intro w hSw; (try dsimp only at hSw); replace X0 := bel_cell hSw X0; replace zp := Nat.lt_of_lt_of_le zp hSw.size; go_simp; try with_reducible rfl
        (try simp only [Act.put, List.setIfInBounds_toArray, List.set_cons_zero, List.set_cons_succ])
        refine reg_take (i := 11) (oi := _) (v := ?_) rfl (by kernel_rfl) (by kernel_rfl) (by kernel_rfl) (fun _ _ _ h => h) (by rfl) ?_ (by assumption) ?_
        rotate_left
        · intro w hSw; (try dsimp only at hSw); replace X0 := bel_cell hSw X0; replace zp := Nat.lt_of_lt_of_le zp hSw.size; go_simp; try with_reducible rfl
        (try simp only [Act.put, List.setIfInBounds_toArray, List.set_cons_zero, List.set_cons_succ])
        refine wpAnyH_ready (rs := [12]) (by kernel_rfl) (by simp) ?_
        refine reg_each (o := _) rfl (fun K hK => ?_) ?_
        · skip
          go_simp
          refine hK.out _ _ ?_ (fun hHeld2 => ?_)
          · exact hHeld.alloc hHeld.size _
          clear hK K hHeld
          have hHeld := hHeld2
          clear hHeld2
          (try simp only [Act.put, List.setIfInBounds_toArray, List.set_cons_zero, List.set_cons_succ])
          refine wpAnyH_ready (rs := [13]) (by kernel_rfl) (by simp) ?_
          refine reg_each (o := _) rfl (fun K hK => ?_) ?_
          · skip
            refine step_append_m rfl _ _ (by rfl) w5.heap.size _ (ownM (Lk.take i)) ⟨nm, (⟨#[60]⟩ : ByteArray) ++ nm ++ (⟨#[62]⟩ : ByteArray)⟩ ⟨wr.heap.size, 0, none⟩ 1 (by rfl) (by first | rfl | go_simp) (HON.out.alloc _) (fun j u h => hnw.out j u h) (by rw [HLN.out]; omega) hHeld.size ?_
            intro v4 w4 own4 gr4
            have O4 := Lib.hid own4
            have B5 := below_grown' hHeld gr4 (fun k e => (HON.out.lt k e).1) hHeld.size
            have B4 := Lib.hid B5
            clear own4 gr4 B5
            refine hK.out _ _ ?_ (fun hHeld2 => ?_)
            · exact B4.out
            clear hK K hHeld
            have hHeld := hHeld2
            clear hHeld2
            (try simp only [Act.put, List.setIfInBounds_toArray, List.set_cons_zero, List.set_cons_succ])
            refine reg_take (i := 14) (oi := _) (v := ?_) rfl (by kernel_rfl) (by kernel_rfl) (by kernel_rfl) (fun _ _ _ h => h) (by rfl) ?_ (by assumption) ?_
            rotate_left
            · intro w hSw; (try dsimp only at hSw); replace X0 := bel_cell hSw X0; replace zp := Nat.lt_of_lt_of_le zp hSw.size; go_simp; try with_reducible rfl
            (try simp only [Act.put, List.setIfInBounds_toArray, List.set_cons_zero, List.set_cons_succ])
            refine wpAnyH_done (by kernel_rfl) ?_ _
            refine NoPanic.normal ?_
            clear X0 zp
            go_wp2_with (fail)
            go_roundw
            case rel => exact ⟨i + 1, by go_num, by omega, by rw [HTK.out, List.length_append]; exact O4.out, B4.out⟩
            case measure => simp [intOf]; omega
          exact AllReadyH.nil
        exact AllReadyH.nil
      · obtain rfl : i = Lk.length := by omega
        have own6 := HON.out
        rw [List.take_length] at own6
        have HIt := RdM.of_owns own6 rfl (Nat.le_refl wr.heap.size)
        have hoL : (ownM Lk).length = Lk.length := by unfold ownM; rw [List.length_map]
        obtain ⟨m6, hm6⟩ := HM5.out.below BEL.out
        have EX := Lib.hid (expand_walk z2 _ (ownM Lk) wr m6 hm6 HIt (by omega) (by omega))
        have HM6 := Lib.hid (HM5.out.below BEL.out)
        have BH6 := Lib.hid (below_trans BH5.out BEL.out)
        clear own6 HIt hoL hm6 HON BEL HM5 BH5 HS5 HG5 HBZ
        obtain ⟨W6, rfl⟩ : ∃ Z, Z = wr := ⟨_, rfl⟩
        go_wp2_with (fail)
        refine EX.out.mono ?_
        rintro y w7 ⟨⟨z5, rfl, hz5⟩, B7⟩
        rw [HOO.out] at hz5
        rw [HOE.out]
        simp only [errE0]
        have HZ5 := Lib.hid hz5
        have HM7 := Lib.hid (HM6.out.below B7)
        have BH7 := Lib.hid (below_trans BH6.out B7)
        clear EX hz5 B7 HM6 BH6 HOO HOE HOW
        go_upto_region 19 with (fail)
        go_loopw [15, 16, 17, 96, 108, 129] (fun ov bv iv _ _ _ wr => ∃ (i : Nat) (b : Bool) (zo : ByteArray), ov = .string zo ∧ bv = .bool b ∧ iv = .int .i64 i ∧ i ≤ z2.size ∧ zo.data.toList ++ wantF b (z2.data.toList.drop i) = wantF false z2.data.toList ∧ zo.size ≤ i ∧ wr = w7) (fun _ _ iv _ _ _ _ => z2.size - (intOf iv).toNat)
        case atStart => exact ⟨0, false, ⟨#[]⟩, rfl, rfl, rfl, Nat.zero_le _, rfl, Nat.zero_le _, rfl⟩
        case round =>
          obtain ⟨i, b, zo, rfl, rfl, rfl, hi, hw, hzs, rfl⟩ := hrel
          have i0 : (0 : Int) ≤ i := by omega
          have HW := Lib.hid hw
          clear hw
          by_cases hlt : i < z2.size
          · have hlt' : (i : Int) < (z2.size : Int) := by omega
            have HDB := drop_byte z2 i hlt
            have hsl : ∀ W, (Instr.slice 9 (.string z2) (some (.int .i64 (i : Int))) (some (.int .i64 ((i : Int) + 1))) none).run Tryd.prog W = .ok (.string (z2.extract i (i + 1))) W := fun W => by
              rw [run_slice_string W 9 z2 .i64 .i64 _ _ Tryd.underlying9 (by omega) (by omega) (by omega), show ((i : Int)).toNat = i by omega, show ((i : Int) + 1).toNat = i + 1 by omega]
            have HCUT := Lib.hid (cut_data z2 i hlt)
            obtain ⟨cut, hcut⟩ : ∃ cut, z2.extract i (i + 1) = cut := ⟨_, rfl⟩
            have hcs : cut.size = 1 := by rw [← sz_len, ← hcut, HCUT.out]; rfl
            rw [hcut] at HCUT hsl
            obtain ⟨c, hc⟩ : ∃ c, z2[i] = c := ⟨_, rfl⟩
            rw [hc] at HDB HCUT
            have HD := Lib.hid HDB
            clear HDB
            by_cases h36 : c = 36
            · have hd : ((c.toNat : Int) == 36) = true := by rw [dollar]; exact decide_eq_true h36
              have hd' : ((c.toNat : Int) != 36) = false := by simpa using hd
              have HC := Lib.hid h36
              clear h36 hsl
              cases b with
              | true =>
                obtain ⟨zn, hzn⟩ : ∃ zn, zo ++ (⟨#[62]⟩ : ByteArray) = zn := ⟨_, rfl⟩
                have hzns : zn.size ≤ i + 1 := by rw [← hzn, ByteArray.size_append]; show zo.size + 1 ≤ _; omega
                have HWN := Lib.hid (show zn.data.toList ++ wantF false (z2.data.toList.drop (i + 1)) = wantF false z2.data.toList by rw [← HW.out, ← hzn, app_data, HD.out]; rw [HC.out, wantF_true_eq]; simp)
                go_wp2_with (fail)
                go_roundw
                case rel => exact ⟨i + 1, false, zn, rfl, rfl, by go_num, by omega, HWN.out, hzns, by first | rfl | trivial⟩
                case measure => simp [intOf]; omega
              | false =>
                by_cases hn : i + 1 < z2.size
                · have hn' : (i : Int) + 1 < (z2.size : Int) := by omega
                  have HDB2 := drop_byte z2 (i + 1) hn
                  obtain ⟨d, hdd⟩ : ∃ d, z2[i + 1] = d := ⟨_, rfl⟩
                  rw [hdd] at HDB2
                  have HD2 := Lib.hid HDB2
                  clear HDB2
                  by_cases hd36 : d = 36
                  · have hdn : ((d.toNat : Int) == 36) = true := by rw [dollar]; exact decide_eq_true hd36
                    have HC2 := Lib.hid hd36
                    clear hd36
                    obtain ⟨zn, hzn⟩ : ∃ zn, zo ++ (⟨#[36]⟩ : ByteArray) = zn := ⟨_, rfl⟩
                    have hzns : zn.size ≤ i + 2 := by rw [← hzn, ByteArray.size_append]; show zo.size + 1 ≤ _; omega
                    have HWN := Lib.hid (show zn.data.toList ++ wantF false (z2.data.toList.drop (i + 2)) = wantF false z2.data.toList by rw [← HW.out, ← hzn, app_data, HD.out]; rw [HC.out, HD2.out, HC2.out, wantF_two]; simp)
                    go_wp2_with (fail)
                    go_roundw
                    case rel => exact ⟨i + 2, false, zn, rfl, rfl, by go_num, by omega, HWN.out, hzns, by first | rfl | trivial⟩
                    case measure => simp [intOf]; omega
                  · have hdn : ((d.toNat : Int) == 36) = false := by rw [dollar]; exact decide_eq_false hd36
                    have HC2 := Lib.hid (show ∀ e r', z2.data.toList.drop (i + 1) = e :: r' → e ≠ 36 from fun e r' h => by rw [HD2.out] at h; cases h; exact hd36)
                    clear hd36
                    obtain ⟨zn, hzn⟩ : ∃ zn, zo ++ (⟨#[60]⟩ : ByteArray) = zn := ⟨_, rfl⟩
                    have hzns : zn.size ≤ i + 1 := by rw [← hzn, ByteArray.size_append]; show zo.size + 1 ≤ _; omega
                    have HWN := Lib.hid (show zn.data.toList ++ wantF true (z2.data.toList.drop (i + 1)) = wantF false z2.data.toList by rw [← HW.out, ← hzn, app_data, HD.out]; rw [HC.out, wantF_open HC2.out]; simp)
                    go_wp2_with (fail)
                    go_roundw
                    case rel => exact ⟨i + 1, true, zn, rfl, rfl, by go_num, by omega, HWN.out, hzns, by first | rfl | trivial⟩
                    case measure => simp [intOf]; omega
                · have hn' : ¬ (i : Int) + 1 < (z2.size : Int) := by omega
                  have HC2 := Lib.hid (show ∀ e r', z2.data.toList.drop (i + 1) = e :: r' → e ≠ 36 from fun e r' h => by rw [List.drop_of_length_le (by rw [HSL.out]; omega)] at h; cases h)
                  obtain ⟨zn, hzn⟩ : ∃ zn, zo ++ (⟨#[60]⟩ : ByteArray) = zn := ⟨_, rfl⟩
                  have hzns : zn.size ≤ i + 1 := by rw [← hzn, ByteArray.size_append]; show zo.size + 1 ≤ _; omega
                  have HWN := Lib.hid (show zn.data.toList ++ wantF true (z2.data.toList.drop (i + 1)) = wantF false z2.data.toList by rw [← HW.out, ← hzn, app_data, HD.out]; rw [HC.out, wantF_open HC2.out]; simp)
                  go_wp2_with (fail)
                  go_roundw
                  case rel => exact ⟨i + 1, true, zn, rfl, rfl, by go_num, by omega, HWN.out, hzns, by first | rfl | trivial⟩
                  case measure => simp [intOf]; omega
            · have hd : ((c.toNat : Int) == 36) = false := by rw [dollar]; exact decide_eq_false h36
              have hd' : ((c.toNat : Int) != 36) = true := by simpa using hd
              have HC := Lib.hid h36
              clear h36
              obtain ⟨zn, hzn⟩ : ∃ zn, zo ++ (cut : ByteArray) = zn := ⟨_, rfl⟩
              have hzns : zn.size ≤ i + 1 := by rw [← hzn, ByteArray.size_append]; rw [hcs]; omega
              have HWN := Lib.hid (show zn.data.toList ++ wantF b (z2.data.toList.drop (i + 1)) = wantF false z2.data.toList by rw [← HW.out, ← hzn, app_data, HD.out]; rw [HCUT.out, wantF_ne HC.out]; simp)
              go_wp2_with (fail)
              go_roundw
              case rel => exact ⟨i + 1, b, zn, rfl, rfl, by go_num, by omega, HWN.out, hzns, by first | rfl | trivial⟩
              case measure => simp [intOf]; omega
          · obtain rfl : i = z2.size := by omega
            have hend := HW.out
            rw [List.drop_of_length_le (by rw [HSL.out]; exact Nat.le_refl _)] at hend
            have hzz : zo = z5 := ba_inj (by rw [HZ5.out, ← hend]; cases b <;> simp [wantF])
            subst hzz
            have hq : (zo.toList == zo.toList) = true := by simp
            clear hend HW
            go_wp2_with (fail)
            refine (sure_walk _ HM7.out).mono ?_
            rintro y w8 ⟨rfl, B8⟩
            have B9 := below_trans BH7.out B8
            go_wp2
            go_ret
            exact ⟨rfl, B9⟩
end Go.Proofs.YtacajmknlknjkaaDoor
