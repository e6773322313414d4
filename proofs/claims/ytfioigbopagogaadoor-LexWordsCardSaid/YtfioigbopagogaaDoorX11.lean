/- Words. -/
import Derived.Test.YtfioigbopagogaaDoorX10
import Derived.Test.YtfioigbopagogaaDoorX9
import Derived.Maps.AppendAt
import Derived.Deep.AppendLies
namespace Go.Proofs.YtfioigbopagogaaDoor
open Go.RowKit
section
variable {P : Program} {ops : Array Oper} {Q : Exit → Act → World → Prop} {md : Region.Mode} {S : World → Prop}
theorem op_at {i : Nat} {oi : Oper} (h : ops.toList[i]? = some oi) : ops[i]? = some oi := by rw [← Array.getElem?_toList]; exact h
/-- The i-th operation comes up, runs, and yields v in every world that meets S. -/
theorem reg_take {i : Nat} {oi : Oper} {v : Value} {fuel : Nat} {listed : Array Bool} {a : Act} {w : World} (hi : ops.toList[i]? = some oi)
    (hs : Region.noSelect ops = true) (hf : Region.free md ops listed i = true) (hr : (Region.ready md ops listed).contains i = true)
    (hQ : ∀ c a w, Q (.panic c) (a.put oi.dst v) w → Q (.panic c) a w) (hw : Region.wanted oi (yielded ops a.tmps) = true) (hy : ∀ w, S w → (execOp a.eval oi).run P w = .ok (.value v) w) (hS : S w)
    (h : wpAnyH P md ops Q S fuel (listed.setIfInBounds i true) (a.put oi.dst v) w) : wpAnyH P md ops Q S (fuel + 1) listed a w :=
  wpAnyH_take (op_at hi) hs hf hr hQ (Or.inl ⟨hw, hy⟩) hS h
/-- The i-th operation comes up, and is left out. -/
theorem reg_skip {i : Nat} {oi : Oper} {fuel : Nat} {listed : Array Bool} {a : Act} {w : World} (hi : ops.toList[i]? = some oi)
    (hs : Region.noSelect ops = true) (hf : Region.free md ops listed i = true) (hr : (Region.ready md ops listed).contains i = true)
    (hQ : ∀ c a w, Q (.panic c) (a.put oi.dst undef) w → Q (.panic c) a w) (hw : Region.wanted oi (yielded ops a.tmps) = false) (hS : S w)
    (h : wpAnyH P md ops Q S fuel (listed.setIfInBounds i true) (a.put oi.dst undef) w) : wpAnyH P md ops Q S (fuel + 1) listed a w :=
  wpAnyH_take (op_at hi) hs hf hr hQ (Or.inr ⟨hw, rfl⟩) hS h
theorem reg_each {fuel : Nat} {listed : Array Bool} {a : Act} {w : World} {i : Nat} {o : Oper} {rs : List Nat} (ho : ops.toList[i]? = some o)
    (h : ∀ K' : Act → World → Prop, Shut (∀ a w, S w → (S w → wpAnyH P md ops Q S fuel (listed.setIfInBounds i true) a w) → K' a w) → if Region.wanted o (yielded ops a.tmps) = true then Oper.wp P o a w K' Q else K' (a.put o.dst undef) w)
    (hs : AllReadyH P md ops Q S fuel listed a w rs) : AllReadyH P md ops Q S fuel listed a w (i :: rs) := AllReadyH.cons (op_at ho) h hs
end
set_option linter.unusedVariables false
set_option linter.unusedSimpArgs false
theorem idx_walk (s S : ByteArray) (hS : S.data.toList = blanks) (w : World) (hs : s.size ≤ 5000) :
    Calls Tryd.prog 23 #[.string s, .string S] w fun e w' => e = .returned (.int .i64 (Lib.indexAny s.data.toList blanks)) ∧ Below w.heap.size w w' := by
  by_cases h8 : s.size ≤ 8
  · exact idx_short s S hS w h8
  · have h3 : S.size = 3 := by rw [sz_drop hS]; rfl
    have := Any.strings_IndexAny_long (P := Tryd.prog) (ρ := Tryd.idxAny_ren) { Tryd.idxAny with } (fun w => by kernel_rfl) (by kernel_rfl) s S w (by omega) (by omega) (by omega) (by omega) (fun j b hb => by
      rw [hS] at hb
      have hm : b ∈ blanks := List.mem_of_getElem? hb
      unfold blanks at hm
      simp only [List.mem_cons, List.not_mem_nil, or_false] at hm
      rcases hm with rfl | rfl | rfl <;> decide)
    rw [hS] at this
    exact this.mono fun e w' h => ⟨h.1, by rw [h.2]; exact below_al (below_al (Below.refl _ _) _) _⟩
theorem cellsS_one (L : List ByteArray) : ∀ u ∈ cellsS L, u.oneCell' = true := by
  intro u hu
  obtain ⟨x, _, rfl⟩ := List.mem_map.1 hu
  rfl
theorem step_append_t {w : World} {ops : Array Oper} {o : Oper} {a : Act} {K : Act → World → Prop} {Q : Exit → Act → World → Prop} {F : Prop} (hgd : o.guard = none) (s x : Operand)
    (ho : o.op = .call { callee := .builtin .append, args := #[s, x], argTypes := #[22, 22] }) (B : Nat) (v : Value) (E0 : List ByteArray) (e : ByteArray) (ad : Addr) (cap : Nat)
    (hs : a.eval s = v) (hx : a.eval x = .slice (some ad) 1 cap) (hown : w.ownsRow B 9 1 v E0.length (cellsS E0)) (hnews : ∀ j u, [Value.string e][j]? = some u → w.cell? (ad.add j) = some u) (hb : E0.length + 1 ≤ 1048576) (hB : B ≤ w.heap.size)
    (h : ∀ v' w', w'.ownsRow B 9 1 v' (E0 ++ [e]).length (cellsS (E0 ++ [e])) → w.grownBy w' v.ownBlock → K (a.put o.dst v') w') :
    if Region.wanted o (yielded ops a.tmps) = true then Oper.wp Tryd.prog o a w K Q else F := by
  obtain ⟨i0, hi0, hz0, hz1, hz2⟩ := info_parts info9
  have hw : Region.wanted o (yielded ops a.tmps) = true := by simp [Region.wanted, hgd]
  rw [if_pos hw]
  obtain ⟨v', w', hr, h2, h3, _, h5⟩ := run_append_own_at (P := Tryd.prog) w B 22 o.type 9 i0 (.string ByteArray.empty) 1 16 Tryd.underlying22 hi0 hz0 hz1 hz2 rfl (by decide) v E0.length (cellsS E0) hown ad 1 cap [.string e] rfl hnews (cellsS_one [e]) (by simp only [maxLen]; omega) (by omega) hB
  unfold Oper.wp execOp
  simp only [ho, resolve, invoke, builtin, Sem.run_bind, Sem.run_pure, Result.andThen_ok, List.map_toArray, List.map_cons, List.map_nil, hs, hx, hr]
  refine h v' w' ?_ h3
  rw [cellsS_snoc, show (E0 ++ [e]).length = E0.length + 1 by simp]; exact h2
theorem own_below {w1 w2 : World} {n : Nat} {t : TypeId} {v : Value} {xs : List Value} {B : Nat} (h : w1.ownsRow B t 1 v n xs) (hb : Below w1.heap.size w1 w2) : w2.ownsRow B t 1 v n xs := by
  refine ⟨h.1, h.2.imp id ?_⟩
  rintro ⟨g, cap, cur, e, hB, hg, r⟩
  exact ⟨g, cap, cur, e, hB, (hb.block g (Array.getElem?_eq_some_iff.1 hg).1).trans hg, r⟩
/-- A text without a blank at its begin. -/
def Trd (t : ByteArray) : Prop := t.data.toList = [] ∨ ∃ c r, t.data.toList = c :: r ∧ isB c = false
theorem trd_trim (x : List UInt8) : Trd ⟨(Lib.trimS x blanks).toArray⟩ := by
  show Lib.trimS x blanks = [] ∨ _
  rcases trim_head x with ⟨_, e⟩ | ⟨c, u, v, _, h2, e⟩
  · exact .inl e
  · exact .inr ⟨c, v, e, h2⟩
def nOf : Value → Nat
  | .string a => a.size
  | _ => 0
set_option maxRecDepth 100000 in
set_option maxHeartbeats 16000000 in
/-- Words. -/
theorem words13 (s : ByteArray) (w : World) (hs : s.size ≤ 5000) : Calls Tryd.prog 13 #[.string s] w (WordsSaid s w) := by
  obtain ⟨ii, hi0, hz0, hz1, hz2⟩ := info_parts info9
  have TW := Lib.hid (trim_walk s w (by omega))
  have HT := Lib.hid (trd_trim s.data.toList)
  have HW0 := Lib.hid (words_trim s.data.toList)
  have hl0 := trim_len s.data.toList
  obtain ⟨t0, ht0⟩ : ∃ t0 : ByteArray, (⟨(Lib.trimS s.data.toList blanks).toArray⟩ : ByteArray) = t0 := ⟨_, rfl⟩
  have ht0d : t0.data.toList = Lib.trimS s.data.toList blanks := by rw [← ht0]
  have ht0s : t0.size ≤ s.size := by rw [sz_drop ht0d]; rw [sz_len] at hl0; exact hl0
  rw [← ht0d] at HW0
  rw [ht0] at HT TW
  clear hl0 ht0 ht0d
  go_enter Tryd.func13, Tryd.ntmps13
  go_upto_region 2 with (fail)
  go_wp2_with (fail)
  refine TW.out.mono ?_
  rintro y w1 ⟨rfl, B1⟩
  have BW1 := Lib.hid B1
  clear TW B1
  go_upto_region 3 with (fail)
  go_loopw [0, 3, 4] (fun sv lv _ wr => ∃ (t : ByteArray) (L : List ByteArray), sv = .string t ∧ t.size ≤ 5000 ∧ Trd t ∧ L.length + t.size ≤ s.size ∧ datas L ++ wordsG [] t.data.toList = wordsG [] s.data.toList ∧ wr.ownsRow w.heap.size 9 1 lv L.length (cellsS L) ∧ Below w.heap.size w wr) (fun sv _ _ _ => nOf sv)
  case atStart => exact ⟨t0, [], rfl, by omega, HT.out, by simp; omega, HW0.out, World.ownsRow_nil _ _ _ _, BW1.out⟩
  case round =>
    obtain ⟨W0, rfl⟩ : ∃ Z, Z = wr := ⟨_, rfl⟩
    obtain ⟨t, L, rfl, hts, htr, hLt, hwd, own, bel⟩ := hrel
    have HOW := Lib.hid own
    have BEL := Lib.hid bel
    have HWD := Lib.hid hwd
    clear own bel hwd
    cases hz : t.size with
    | zero =>
      have hem : t.toList.isEmpty = true := by rw [ByteArray.toList_eq, empty_of_zero hz]; rfl
      have HF := Lib.hid (show datas L = wordsG [] s.data.toList by rw [← HWD.out, empty_of_zero hz, wordsG, if_pos rfl, List.append_nil])
      clear hz
      go_wp2_with (fail)
      go_ret
      exact ⟨⟨_, L, rfl, HF.out, by omega, HOW.out⟩, BEL.out⟩
    | succ n =>
      obtain ⟨hem, hne⟩ := isEmpty_of hz
      have IW := Lib.hid (idx_walk t ⟨#[32, 9, 13]⟩ rfl W0 hts)
      have HST : Hid ((Lib.indexAny t.data.toList blanks = -1 ∧ wordsG [] t.data.toList = [t.data.toList]) ∨ ∃ n : Nat, Lib.indexAny t.data.toList blanks = n ∧ 0 < n ∧ n < t.size ∧ wordsG [] t.data.toList = t.data.toList.take n :: wordsG [] (t.data.toList.drop n)) := Lib.hid (by
        rcases htr with h | ⟨c, r, h, hc⟩
        · exact absurd h hne
        · have := words_step (r := r) hc
          rw [← h, sz_len] at this; exact this)
      clear htr hne
      rcases HST.out with ⟨hi, hw⟩ | ⟨k, hi, hk0, hkt, hw⟩
      · rw [hi] at IW
        have HF := Lib.hid (show datas (L ++ [t]) = wordsG [] s.data.toList by rw [← HWD.out, hw, datas_snoc])
        clear hi hw HST
        go_wp2_with (fail)
        refine IW.out.mono ?_
        rintro y w2 ⟨rfl, B2⟩
        have HO2 := Lib.hid (own_below HOW.out B2)
        have B3 := Lib.hid (below_trans BEL.out B2)
        clear IW B2
        have hva := HO2.out.alloc (.cells #[.string t] 9)
        have hnw := Lib.hid (World.news_of_block (cs := #[.string t]) (t := 9) (fr := (0, 0)) (heap_alloc_new w2 (.cells #[.string t] 9)))
        have hsz4 : w.heap.size ≤ (w2.alloc (.cells #[.string t] 9)).heap.size := by have h1 := B3.out.size; simp; omega
        go_wp2_with (at_builtin; refine wpList_append_own_at _ rfl _ _ 22 rfl w.heap.size 9 ii (.string ByteArray.empty) 1 16 Tryd.underlying22 hi0 hz0 hz1 hz2 rfl (by decide) _ L.length (cellsS L) rfl hva ⟨w2.heap.size, 0, none⟩ 1 1 [.string t] rfl rfl hnw.out (by simp [Value.oneCell']) (by simp only [maxLen]; omega) (by omega) hsz4 ?_; intro v5 w5 own5 gr5 nil5 at5)
        have B5 := Lib.hid (below_grown' (B3.out.alloc B3.out.size _) gr5 (fun k e => (HO2.out.lt k e).1) hsz4)
        rw [← cellsS_snoc, show L.length + 1 = (L ++ [t]).length by simp] at own5
        have HO5 := Lib.hid own5
        clear own5 gr5 nil5 at5 hva hsz4
        go_wp2
        go_ret
        exact ⟨⟨_, L ++ [t], rfl, HF.out, by simp; omega, HO5.out⟩, B5.out⟩
      · rw [hi] at IW
        obtain ⟨u, hu⟩ : ∃ u, t.extract 0 k = u := ⟨_, rfl⟩
        obtain ⟨q, hq⟩ : ∃ q, t.extract k t.size = q := ⟨_, rfl⟩
        have hud : u.data.toList = t.data.toList.take k := by rw [← hu, mid_data t 0 k (by omega), List.drop_zero]
        have hqd : q.data.toList = t.data.toList.drop k := by rw [← hq, mid_data t k t.size (Nat.le_refl _), List.take_of_length_le (by rw [sz_len]; exact Nat.le_refl _)]
        have hqs : q.size = t.size - k := by rw [sz_drop hqd, List.length_drop, sz_len]
        have hsl1 : ∀ W, (Instr.slice 9 (.string t) none (some (.int .i64 (k : Int))) none).run Tryd.prog W = .ok (.string u) W := fun W => by
          rw [run_slice_string_to_if W 9 t .i64 (k : Int) Tryd.underlying9, if_pos ⟨by omega, by omega⟩, Int.toNat_natCast, hu]
        have hsl2 : ∀ W, (Instr.slice 9 (.string t) (some (.int .i64 (k : Int))) none none).run Tryd.prog W = .ok (.string q) W := fun W => by
          rw [run_slice_string_from_if W 9 t .i64 (k : Int) Tryd.underlying9, if_pos ⟨by omega, by omega⟩, Int.toNat_natCast, hq]
        have HW2 := Lib.hid (show datas (L ++ [u]) ++ wordsG [] q.data.toList = wordsG [] s.data.toList by
          rw [← HWD.out, hw, datas_snoc, hud, hqd, List.append_assoc]; rfl)
        have k0 : ¬ (k : Int) < 0 := by omega
        have k0' : (0 : Int) ≤ (k : Int) := by omega
        clear hi hw HST hud hqd hu hq HWD
        have HQW := Lib.hid (words_trim q.data.toList)
        have HQT := Lib.hid (trd_trim q.data.toList)
        have hql := trim_len q.data.toList
        obtain ⟨t2, ht2⟩ : ∃ t2 : ByteArray, (⟨(Lib.trimS q.data.toList blanks).toArray⟩ : ByteArray) = t2 := ⟨_, rfl⟩
        have ht2d : t2.data.toList = Lib.trimS q.data.toList blanks := by rw [← ht2]
        have ht2s : t2.size ≤ q.size := by rw [sz_drop ht2d]; rw [sz_len] at hql; exact hql
        rw [← ht2d] at HQW
        have TW := Lib.hid (fun W => trim_walk q W (by omega))
        rw [ht2] at HQT TW
        clear hql ht2 ht2d
        have IW := Lib.hid IW.out
        go_upto_region 8 with (go_at_call 23; refine IW.out.mono ?_; rintro y w2 ⟨rfl, B2⟩; have HO2 := Lib.hid (own_below HOW.out B2); have B3 := Lib.hid (below_trans BEL.out B2); clear IW B2)
        clear BEL HOW
        have hnew := Lib.hid (World.news_of_block (cs := #[.string u]) (t := 9) (fr := (0, 0)) (heap_alloc_new w2.drew (.cells #[.string u] 9)))
        refine wp_region_noPanic ?_
        refine wp_region_held_drew (S := (fun w' => Below w.heap.size w w')) (by kernel_rfl) ?_ (fun hHeld => ?_)
        · exact below_drewN B3.out 1
        refine reg_take (i := 0) (oi := _) (v := ?_) rfl (by kernel_rfl) (by kernel_rfl) (by kernel_rfl) (fun _ _ _ h => h) (by rfl) ?_ (by assumption) ?_
        rotate_left
        · intro w hSw; (try dsimp only at hSw); go_simp; try with_reducible rfl
        (try simp only [Act.put, List.setIfInBounds_toArray, List.set_cons_zero, List.set_cons_succ])
        refine reg_take (i := 1) (oi := _) (v := ?_) rfl (by kernel_rfl) (by kernel_rfl) (by kernel_rfl) (fun _ _ _ h => h) (by rfl) ?_ (by assumption) ?_
        rotate_left
        · intro w hSw; (try dsimp only at hSw); go_simp; try with_reducible rfl
        (try simp only [Act.put, List.setIfInBounds_toArray, List.set_cons_zero, List.set_cons_succ])
        refine reg_take (i := 2) (oi := _) (v := ?_) rfl (by kernel_rfl) (by kernel_rfl) (by kernel_rfl) (fun _ _ _ h => h) (by rfl) ?_ (by assumption) ?_
        rotate_left
        · intro w hSw; (try dsimp only at hSw); go_simp; try with_reducible rfl
        (try simp only [Act.put, List.setIfInBounds_toArray, List.set_cons_zero, List.set_cons_succ])
        refine reg_take (i := 3) (oi := _) (v := ?_) rfl (by kernel_rfl) (by kernel_rfl) (by kernel_rfl) (fun _ _ _ h => h) (by rfl) ?_ (by assumption) ?_
        rotate_left
        · intro w hSw; (try dsimp only at hSw); go_simp; try with_reducible rfl
        (try simp only [Act.put, List.setIfInBounds_toArray, List.set_cons_zero, List.set_cons_succ])
        refine reg_take (i := 6) (oi := _) (v := ?_) rfl (by kernel_rfl) (by kernel_rfl) (by kernel_rfl) (fun _ _ _ h => h) (by rfl) ?_ (by assumption) ?_
        rotate_left
        · intro w hSw; (try dsimp only at hSw); go_simp; try with_reducible rfl
        (try simp only [Act.put, List.setIfInBounds_toArray, List.set_cons_zero, List.set_cons_succ])
        refine reg_take (i := 7) (oi := _) (v := ?_) rfl (by kernel_rfl) (by kernel_rfl) (by kernel_rfl) (fun _ _ _ h => h) (by rfl) ?_ (by assumption) ?_
        rotate_left
        · intro w hSw; (try dsimp only at hSw); go_simp; try with_reducible rfl
        (try simp only [Act.put, List.setIfInBounds_toArray, List.set_cons_zero, List.set_cons_succ])
        refine reg_take (i := 8) (oi := _) (v := ?_) rfl (by kernel_rfl) (by kernel_rfl) (by kernel_rfl) (fun _ _ _ h => h) (by rfl) ?_ (by assumption) ?_
        rotate_left
        · intro w hSw; (try dsimp only at hSw); go_simp; try with_reducible rfl
        (try simp only [Act.put, List.setIfInBounds_toArray, List.set_cons_zero, List.set_cons_succ])
        refine wpAnyH_ready (rs := [4]) (by kernel_rfl) (by simp) ?_
        refine reg_each (o := _) rfl (fun K hK => ?_) ?_
        · skip
          go_simp
          refine hK.out _ _ ?_ (fun hHeld2 => ?_)
          · exact below_al hHeld _
          clear hK K hHeld
          have hHeld := hHeld2
          clear hHeld2
          (try simp only [Act.put, List.setIfInBounds_toArray, List.set_cons_zero, List.set_cons_succ])
          refine wpAnyH_ready (rs := [5]) (by kernel_rfl) (by simp) ?_
          refine reg_each (o := _) rfl (fun K hK => ?_) ?_
          · skip
            refine step_append_t (by rfl) _ _ (by rfl) w.heap.size _ L u ⟨w2.heap.size, 0, none⟩ 1 (by rfl) (by first | rfl | go_simp) (HO2.out.drew.alloc _) hnew.out (by omega) ?_ ?_
            · have := B3.out.size; simp; omega
            intro v4 w4 own4 gr4
            refine hK.out _ _ ?_ (fun hHeld2 => ?_)
            · exact below_grown' hHeld gr4 (fun k e => (HO2.out.lt k e).1) hHeld.size
            clear hK K hHeld
            have hHeld := hHeld2
            clear hHeld2
            (try simp only [Act.put, List.setIfInBounds_toArray, List.set_cons_zero, List.set_cons_succ])
            have O4 := Lib.hid own4
            have B4 := Lib.hid hHeld
            clear own4 gr4
            refine reg_take (i := 9) (oi := _) (v := ?_) rfl (by kernel_rfl) (by kernel_rfl) (by kernel_rfl) (fun _ _ _ h => h) (by rfl) ?_ (by assumption) ?_
            rotate_left
            · intro w hSw; (try dsimp only at hSw); go_simp; try with_reducible rfl
            (try simp only [Act.put, List.setIfInBounds_toArray, List.set_cons_zero, List.set_cons_succ])
            refine reg_take (i := 10) (oi := _) (v := ?_) rfl (by kernel_rfl) (by kernel_rfl) (by kernel_rfl) (fun _ _ _ h => h) (by rfl) ?_ (by assumption) ?_
            rotate_left
            · intro w hSw; (try dsimp only at hSw); go_simp; try with_reducible rfl
            (try simp only [Act.put, List.setIfInBounds_toArray, List.set_cons_zero, List.set_cons_succ])
            refine wpAnyH_done (by kernel_rfl) ?_ _
            refine NoPanic.normal ?_
            clear hsl1 hsl2 hnew hHeld HO2 B3
            go_wp2_with (fail)
            refine (TW.out w4).mono ?_
            rintro y w5 ⟨rfl, B5⟩
            have HO5 := Lib.hid (own_below O4.out B5)
            have B6 := Lib.hid (B4.out.trans (B5.mono B4.out.size))
            clear B5 TW
            go_wp2_with (fail)
            go_roundw
            case rel => exact ⟨t2, L ++ [u], rfl, by omega, HQT.out, by simp; omega, by rw [HQW.out]; exact HW2.out, HO5.out, B6.out⟩
            case measure => show t2.size < t.size; omega
          exact AllReadyH.nil
        exact AllReadyH.nil
end Go.Proofs.YtfioigbopagogaaDoor
