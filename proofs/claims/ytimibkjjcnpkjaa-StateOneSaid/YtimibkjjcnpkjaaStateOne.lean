/- For every list of numbers, the law StateOne answers true: of one attempt at most no state is soft. No condition. -/
import Derived.Test.YtimibkjjcnpkjaaOpen
import Derived.Test.YtimibkjjcnpkjaaAid
namespace Go.Proofs.Ytimibkjjcnpkjaa
section
open Go.RowKit
theorem okS_one {S : St} (h : okS S 1) : S.h = true ∧ S.a = 1 ∧ S.l = S.s := by
  obtain ⟨_, _, _, _, _, _, o7⟩ := h
  rcases o7 with g | g | g
  · exact ⟨g.1, g.2.2.1, by omega⟩
  · exact ⟨g.1, g.2.2.1, g.2.2.2⟩
  · omega
theorem one_what {S : St} {st tm : Int} (hs : okS S 1) (hr : okR st tm) :
    (resF S 1 st tm).2 = (if st ≠ 0 ∧ S.s = 0 then 2 else if st = 0 ∧ S.s ≠ 0 then 4 else if st ≠ S.s then 5 else 0) := by
  obtain ⟨g1, g2, g3⟩ := okS_one hs
  unfold resF
  rw [if_pos ⟨hs, hr⟩]
  unfold resG
  by_cases h0 : st = 0
  · subst h0
    by_cases h1 : S.s = 0
    · simp [h1]
    · simp [h1, g1]
  · by_cases h1 : S.s = 0
    · simp [h0, h1]
    · by_cases he : st = S.s
      · have : ¬ S.s = 0 := h1
        simp [h1, he, g1]
      · simp [h0, h1, he, g1]
set_option maxRecDepth 100000 in
set_option maxHeartbeats 4000000 in
theorem one_walk (A : Option Addr) (n cap : Nat) (xs : List Int) (w : World) (hi : Ints w A n xs) :
    Calls Try.prog 6 #[.slice A n cap] w fun e w' => e = .returned (.bool true) ∧ Below w.heap.size w w' := by
  have hn := hi.2.1
  have HI := Lib.hid hi; clear hi
  go_enter Try.func6, Try.ntmps6
  go_wp2_with (fail)
  refine (start_walk _).mono ?_
  rintro e w1 ⟨rfl, hb1⟩
  have p1 := Blk.new w1 25 #[.int .i64 0, .bool true, .int .i64 1, .int .i64 0, .int .i64 0]
  have B1 := below_al hb1 (.cells #[.int .i64 0, .bool true, .int .i64 1, .int .i64 0, .int .i64 0] 25)
  have hg : w.heap.size ≤ w1.heap.size := hb1.size
  have P1 := Lib.hid p1; clear p1
  go_wp2_with (fail)
  generalize hW : w1.alloc (Obj.cells #[Value.int IntKind.i64 0, Value.bool true, Value.int IntKind.i64 1, Value.int IntKind.i64 0, Value.int IntKind.i64 0] 25) = W at *
  generalize w1.heap.size = g at *
  clear hW hb1
  go_loopw [4, 5, 6, 7, 8] (fun i _ _ _ _ wr => ∃ (k : Nat) (S : St), k ≤ n ∧ i = .int .i64 k ∧ Blk wr g 25 #[.int .i64 S.s, .bool S.h, .int .i64 S.a, .int .i64 S.l, .int .i64 S.t] ∧ okS S 1 ∧ Below w.heap.size w wr) (fun i _ _ _ _ _ => n - (intOf i).toNat)
  case atStart => exact ⟨0, ⟨0, true, 1, 0, 0⟩, by omega, rfl, P1.out, ⟨by omega, by omega, by decide, by decide, by decide, by decide, Or.inl ⟨rfl, rfl, rfl, rfl⟩⟩, B1⟩
  case round =>
    obtain ⟨k, ⟨s, h, a, l, t⟩, hk, rfl, hblk, hok, hbel⟩ := hrel
    dsimp only at hblk hok
    by_cases hlt : k < n
    · by_cases h200 : k < 200
      · obtain ⟨ad, rfl, hcell⟩ := (HI.out.below hbel).at hlt
        generalize xs.getD k 0 = x at hcell
        obtain ⟨u1, u2⟩ := u64m_bd x 4 (by decide)
        have k0 : (0 : Int) ≤ k := by omega
        have HB := Lib.hid hblk
        have HOK := Lib.hid hok
        obtain ⟨⟨c0, c1, c2, c3, c4⟩, ⟨f0, f1, f2, f3, f4⟩, zl⟩ := blk5 hblk
        clear hblk hok
        go_upto_region 6 with (fail)
        generalize hst : (IntKind.u64.wrap x).tmod 4 = st at *
        clear hst
        have hr : okR st k := by unfold okR; omega
        have HR := Lib.hid (resF_ok HOK.out hr)
        have HWH := Lib.hid (one_what HOK.out hr); clear hr
        go_wp2_with (fail)
        refine (result_walk s h a l t 1 st k _).mono ?_
        rintro e w2 ⟨rfl, hb2⟩
        have b2 := HB.out.below hb2
        have B2 := below_trans hbel hb2
        clear c0 c1 c2 c3 c4 f0 f1 f2 f3 f4 zl HB hbel hb2
        generalize resF ⟨s, h, a, l, t⟩ 1 st k = R at *
        obtain ⟨⟨s', h', a', l', t'⟩, what⟩ := R
        obtain ⟨ok', rfl, ht'⟩ := HR.out
        clear ht'
        have hone := okS_one ok'
        dsimp only at hone
        obtain ⟨rfl, rfl, rfl⟩ := hone
        unfold stV
        have OK' := Lib.hid ok'; clear ok' HR HOK
        have hwh : what = _ := HWH.out
        dsimp only at hwh
        clear HWH
        obtain ⟨⟨c0, c1, c2, c3, c4⟩, ⟨f0, f1, f2, f3, f4⟩, zl⟩ := blk5 b2
        have gne : g ≠ w2.heap.size := by omega
        have HB := Lib.hid b2; clear b2
        by_cases e0 : l' = 0
        · subst e0
          by_cases e1 : s = 0
          · subst e1
            obtain rfl : what = 0 := by rw [hwh]; simp
            clear hwh
            go_wp2
            go_roundw
            case rel => exact ⟨k + 1, ⟨0, true, 1, 0, t'⟩, by omega, by go_num, (blk_put5 HB.out).alloc _, OK'.out, below_al (below_put5 B2 hg) _⟩
            case measure => simp [intOf]; omega
          · have b1 : (s == 0) = false := beq_eq_false_iff_ne.2 e1
            have b2 : (s != 0) = true := bne_iff_ne.2 e1
            obtain rfl : what = 4 := by rw [hwh]; simp [e1]
            clear hwh
            go_wp2
            go_roundw
            case rel => exact ⟨k + 1, ⟨0, true, 1, 0, t'⟩, by omega, by go_num, (blk_put5 HB.out).alloc _, OK'.out, below_al (below_put5 B2 hg) _⟩
            case measure => simp [intOf]; omega
        · have b0 : (l' == 0) = false := beq_eq_false_iff_ne.2 e0
          have b0' : (l' != 0) = true := bne_iff_ne.2 e0
          by_cases e1 : s = 0
          · subst e1
            obtain rfl : what = 2 := by rw [hwh]; simp [e0]
            clear hwh
            go_wp2
            go_roundw
            case rel => exact ⟨k + 1, ⟨l', true, 1, l', t'⟩, by omega, by go_num, (blk_put5 HB.out).alloc _, OK'.out, below_al (below_put5 B2 hg) _⟩
            case measure => simp [intOf]; omega
          · have b1 : (s == 0) = false := beq_eq_false_iff_ne.2 e1
            by_cases e2 : l' = s
            · subst e2
              obtain rfl : what = 0 := by rw [hwh]; simp [e0]
              clear hwh
              go_wp2
              go_roundw
              case rel => exact ⟨k + 1, ⟨l', true, 1, l', t'⟩, by omega, by go_num, (blk_put5 HB.out).alloc _, OK'.out, below_al (below_put5 B2 hg) _⟩
              case measure => simp [intOf]; omega
            · have b2 : (l' != s) = true := bne_iff_ne.2 e2
              obtain rfl : what = 5 := by rw [hwh]; simp [e0, e1, e2]
              clear hwh
              go_wp2
              go_roundw
              case rel => exact ⟨k + 1, ⟨l', true, 1, l', t'⟩, by omega, by go_num, (blk_put5 HB.out).alloc _, OK'.out, below_al (below_put5 B2 hg) _⟩
              case measure => simp [intOf]; omega
      · go_wp2_with (fail)
        refine (sure_walk _).mono ?_
        rintro e w5 ⟨rfl, hb5⟩
        go_wp2
        go_ret
        exact ⟨rfl, below_trans hbel hb5⟩
    · go_wp2_with (fail)
      refine (sure_walk _).mono ?_
      rintro e w5 ⟨rfl, hb5⟩
      go_wp2
      go_ret
      exact ⟨rfl, below_trans hbel hb5⟩
end
section
open Go.ChangeShapes Go.WideShapes Go.ChangeAt Go.RowKit Go.Joins
set_option linter.unusedVariables false
theorem stateOne_own : ownKnob Try.prog.godebug = none := by kernel_rfl
set_option maxRecDepth 100000 in
theorem stateOne_lifted (os : Os) (started : os.Started) (H : Type) (enc : TypeId × Value → H) :
    ReturnsInHanded {} Try.checked os 6 .any (Rows.stateOneSpec.pre6 enc Try.prog Try.f6 Rows.stateOneRow.domain false) (Rows.stateOneSpec.post enc Try.prog Try.f6 false true false false) := by
  refine returnsInHanded_of_change_sized (C := Try.checked) stateOne_own started (by kernel_rfl) Try.func6
    (ChangeSpec.witness6 (enc := enc) (C := Try.checked) false ⟨#[], #[.slice none 0 0], []⟩ 8 (by kernel_rfl) (by kernel_rfl) (by kernel_rfl) (by kernel_rfl)) ?_
  intro W base args ds gs before hval0 hW hcnd hsz0 _
  have hval : ∀ (j : Nat) t v, Try.f6.params[j]? = some t → args[j]? = some v → Value.okWide Try.prog W .any base t v := hval0
  have hW' := hW
  obtain ⟨p, q, hA0, hV, rfl, hfz, hnd⟩ := hW
  have hA : DataW.TrodAll enc Try.prog W 0 (fun _ => true) true Try.f6.params.toList args.toList ds p := hA0
  rw [Try.params6] at hA hval
  obtain ⟨v0, vs0, d0, ds0, p0, q0, hargs0, rfl, rfl, h0, r0⟩ := trodAll_cons hA
  obtain ⟨rfl, rfl, rfl⟩ := trodAll_nil r0
  obtain rfl : args = #[v0] := by cases args; simp_all
  obtain ⟨rfl, rfl⟩ := trodVars_none hV
  obtain ⟨a0, len0, cap0, rfl⟩ := okWide_slice Try.underlying35 (hval 0 35 v0 rfl rfl)
  have k0 := h0
  have lt0 : ∀ x ∈ p0, x.block < W.heap.size := by obtain ⟨m, hm⟩ := k0; exact DataW.trod_lt m _ _ _ hm
  obtain ⟨x0, i0⟩ := ints_of Try.underlying35 Try.underlying3 (by kernel_rfl) h0
  clear hA0 hval0 hsz0
  refine (one_walk a0 len0 cap0 x0 W i0).mono fun e W' ⟨he, bel⟩ => ?_
  subst he
  exact ⟨_, rfl, _, _, _, [], _, [], hW', trodAll_mk1 (shut_bool Try.underlying4 _), (trodAll_cons_mk (Below.trod laidOut (by kernel_rfl) (of_decide_eq_true (by kernel_rfl)) k0 bel lt0) trodAll_mk0), rfl, bel.frame _, fun h => by cases h⟩
theorem stateOne_holds : Rows.StateOneSaid :=
  OpenClaim.holds_of_wide 6 Try.f6 rfl rfl rfl rfl rfl rfl rfl ⟨rfl, rfl, rfl, rfl, rfl⟩ rfl rfl rfl rfl rfl (by kernel_rfl) Try.func6 (by kernel_rfl)
    (of_decide_eq_true (by kernel_rfl)) (by unfold Func.isWrapper; first | (rw [if_pos (by decide +kernel)]; kernel_rfl) | (rw [if_neg (by decide +kernel)]; exact ⟨rfl, rfl⟩))
    (fun os started H enc _ => stateOne_lifted os started H enc)
#print axioms stateOne_holds
end
end Go.Proofs.Ytimibkjjcnpkjaa
