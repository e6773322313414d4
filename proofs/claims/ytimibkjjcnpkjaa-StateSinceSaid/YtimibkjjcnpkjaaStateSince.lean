/- For every most and every list of numbers, the law StateSince answers true: Since is when the status was another one last. No condition. -/
import Derived.Test.YtimibkjjcnpkjaaOpen
import Derived.Test.YtimibkjjcnpkjaaAid
namespace Go.Proofs.Ytimibkjjcnpkjaa
section
open Go.RowKit
set_option maxRecDepth 100000 in
set_option maxHeartbeats 4000000 in
theorem since_walk (most : Int) (A : Option Addr) (n cap : Nat) (xs : List Int) (w : World) (hi : Ints w A n xs) :
    Calls Try.prog 5 #[.int .i64 most, .slice A n cap] w fun e w' => e = .returned (.bool true) ∧ Below w.heap.size w w' := by
  obtain ⟨q1, q2⟩ := u64m_bd most 12 (by decide)
  have hn := hi.2.1
  have HI := Lib.hid hi; clear hi
  go_enter Try.func5, Try.ntmps5
  go_upto_region 2 with (fail)
  obtain ⟨m, hm⟩ : ∃ m, m = 1 + (IntKind.u64.wrap most).tmod 12 := ⟨_, rfl⟩
  rw [← hm]
  have hm1 : 1 ≤ m := by omega
  have hm2 : m ≤ 12 := by omega
  clear hm q1 q2
  go_wp2_with (fail)
  refine (start_walk _).mono ?_
  rintro e w1 ⟨rfl, hb1⟩
  have p1 := Blk.new w1 25 #[.int .i64 0, .bool true, .int .i64 1, .int .i64 0, .int .i64 0]
  have B1 := below_al hb1 (.cells #[.int .i64 0, .bool true, .int .i64 1, .int .i64 0, .int .i64 0] 25)
  have hg : w.heap.size ≤ w1.heap.size := hb1.size
  have P1 := Lib.hid p1; clear p1
  go_wp2_with (fail)
  generalize hW : w1.alloc (Obj.cells #[Value.int IntKind.i64 0, Value.bool true, Value.int IntKind.i64 1, Value.int IntKind.i64 0, Value.int IntKind.i64 0] 25) = W at *
  generalize w1.heap.size = g at *
  clear hW hb1
  go_loopw [7, 8, 9, 10] (fun si la i _ wr => ∃ (k : Nat) (S : St), k ≤ n ∧ i = .int .i64 k ∧ si = .int .i64 S.t ∧ la = .int .i64 S.s ∧ Blk wr g 25 #[.int .i64 S.s, .bool S.h, .int .i64 S.a, .int .i64 S.l, .int .i64 S.t] ∧ okS S m ∧ Below w.heap.size w wr) (fun _ _ i _ _ => n - (intOf i).toNat)
  case atStart => exact ⟨0, ⟨0, true, 1, 0, 0⟩, by omega, rfl, rfl, rfl, P1.out, ⟨by omega, by omega, by decide, by decide, by decide, by decide, Or.inl ⟨rfl, rfl, rfl, rfl⟩⟩, B1⟩
  case round =>
    obtain ⟨k, ⟨s, h, a, l, t⟩, hk, rfl, rfl, rfl, hblk, hok, hbel⟩ := hrel
    dsimp only at hblk hok
    by_cases hlt : k < n
    · by_cases h200 : k < 200
      · obtain ⟨ad, rfl, hcell⟩ := (HI.out.below hbel).at hlt
        generalize xs.getD k 0 = x at hcell
        obtain ⟨u1, u2⟩ := u64m_bd x 4 (by decide)
        have k0 : (0 : Int) ≤ k := by omega
        have HB := Lib.hid hblk
        have HOK := Lib.hid hok
        obtain ⟨⟨c0, c1, c2, c3, c4⟩, ⟨f0, f1, f2, f3, f4⟩, zl⟩ := blk5 hblk
        clear hblk hok
        go_upto_region 8 with (fail)
        generalize hst : (IntKind.u64.wrap x).tmod 4 = st at *
        clear hst
        have hr : okR st (10 + 3 * k) := by unfold okR; omega
        have HR := Lib.hid (resF_ok HOK.out hr); clear hr
        go_wp2_with (fail)
        refine (result_walk s h a l t m st (10 + 3 * k) _).mono ?_
        rintro e w2 ⟨rfl, hb2⟩
        have b2 := HB.out.below hb2
        have B2 := below_trans hbel hb2
        clear c0 c1 c2 c3 c4 f0 f1 f2 f3 f4 zl HB hbel hb2
        generalize resF ⟨s, h, a, l, t⟩ m st (10 + 3 * k) = R at *
        obtain ⟨⟨s', h', a', l', t'⟩, what⟩ := R
        obtain ⟨ok', rfl, ht'⟩ := HR.out
        dsimp only at ht'
        unfold stV
        have OK' := Lib.hid ok'; clear ok' HR HOK
        obtain ⟨⟨c0, c1, c2, c3, c4⟩, ⟨f0, f1, f2, f3, f4⟩, zl⟩ := blk5 b2
        have HB := Lib.hid b2; clear b2
        by_cases he : s' = s
        · subst he
          rw [if_pos rfl] at ht'
          subst ht'
          go_wp2
          go_roundw
          case rel => exact ⟨k + 1, ⟨s', h', a', l', t'⟩, by omega, by go_num, rfl, rfl, blk_put5 HB.out, OK'.out, below_put5 B2 hg⟩
          case measure => simp [intOf]; omega
        · rw [if_neg he] at ht'
          subst ht'
          have e1 : (s' != s) = true := bne_iff_ne.2 he
          go_wp2
          go_roundw
          case rel => exact ⟨k + 1, ⟨s', h', a', l', 10 + 3 * k⟩, by omega, by go_num, rfl, rfl, blk_put5 HB.out, OK'.out, below_put5 B2 hg⟩
          case measure => simp [intOf]; omega
      · go_wp2_with (fail)
        refine (sure_walk _).mono ?_
        rintro e w5 ⟨rfl, hb5⟩
        go_wp2
        go_ret
        exact ⟨rfl, below_trans hbel hb5⟩
    · go_wp2_with (fail)
      refine (sure_walk _).mono ?_
      rintro e w5 ⟨rfl, hb5⟩
      go_wp2
      go_ret
      exact ⟨rfl, below_trans hbel hb5⟩
end
section
open Go.ChangeShapes Go.WideShapes Go.ChangeAt Go.RowKit Go.Joins
set_option linter.unusedVariables false
theorem stateSince_own : ownKnob Try.prog.godebug = none := by kernel_rfl
set_option maxRecDepth 100000 in
theorem stateSince_lifted (os : Os) (started : os.Started) (H : Type) (enc : TypeId × Value → H) :
    ReturnsInHanded {} Try.checked os 5 .any (Rows.stateSinceSpec.pre6 enc Try.prog Try.f5 Rows.stateSinceRow.domain false) (Rows.stateSinceSpec.post enc Try.prog Try.f5 false true false false) := by
  refine returnsInHanded_of_change_sized (C := Try.checked) stateSince_own started (by kernel_rfl) Try.func5
    (ChangeSpec.witness6 (enc := enc) (C := Try.checked) false ⟨#[], #[.int .i64 0, .slice none 0 0], []⟩ 8 (by kernel_rfl) (by kernel_rfl) (by kernel_rfl) (by kernel_rfl)) ?_
  intro W base args ds gs before hval0 hW hcnd hsz0 _
  have hval : ∀ (j : Nat) t v, Try.f5.params[j]? = some t → args[j]? = some v → Value.okWide Try.prog W .any base t v := hval0
  have hW' := hW
  obtain ⟨p, q, hA0, hV, rfl, hfz, hnd⟩ := hW
  have hA : DataW.TrodAll enc Try.prog W 0 (fun _ => true) true Try.f5.params.toList args.toList ds p := hA0
  rw [Try.params5] at hA hval
  obtain ⟨v0, vs0, d0, ds0, p0, q0, hargs0, rfl, rfl, h0, r0⟩ := trodAll_cons hA
  obtain ⟨v1, vs1, d1, ds1, p1, q1, hargs1, rfl, rfl, h1, r1⟩ := trodAll_cons r0
  obtain ⟨rfl, rfl, rfl⟩ := trodAll_nil r1
  obtain rfl : args = #[v0, v1] := by cases args; simp_all
  obtain ⟨rfl, rfl⟩ := trodVars_none hV
  obtain ⟨a0, rfl, rfl, rfl, w0⟩ := open_int Try.underlying3 (hval 0 3 v0 rfl rfl) h0
  obtain ⟨b0, c0⟩ := wf_i64 w0
  obtain ⟨a1, len1, cap1, rfl⟩ := okWide_slice Try.underlying35 (hval 1 35 v1 rfl rfl)
  have k1 := h1
  have lt1 : ∀ x ∈ p1, x.block < W.heap.size := by obtain ⟨m, hm⟩ := k1; exact DataW.trod_lt m _ _ _ hm
  obtain ⟨x1, i1⟩ := ints_of Try.underlying35 Try.underlying3 (by kernel_rfl) h1
  clear hA0 hval0 hsz0
  refine (since_walk a0 a1 len1 cap1 x1 W i1).mono fun e W' ⟨he, bel⟩ => ?_
  subst he
  exact ⟨_, rfl, _, _, _, [], _, [], hW', trodAll_mk1 (shut_bool Try.underlying4 _), (trodAll_cons_mk (shut_int Try.underlying3 w0) (trodAll_cons_mk (Below.trod laidOut (by kernel_rfl) (of_decide_eq_true (by kernel_rfl)) k1 bel lt1) trodAll_mk0)), rfl, bel.frame _, fun h => by cases h⟩
theorem stateSince_holds : Rows.StateSinceSaid :=
  OpenClaim.holds_of_wide 5 Try.f5 rfl rfl rfl rfl rfl rfl rfl ⟨rfl, rfl, rfl, rfl, rfl⟩ rfl rfl rfl rfl rfl (by kernel_rfl) Try.func5 (by kernel_rfl)
    (of_decide_eq_true (by kernel_rfl)) (by unfold Func.isWrapper; first | (rw [if_pos (by decide +kernel)]; kernel_rfl) | (rw [if_neg (by decide +kernel)]; exact ⟨rfl, rfl⟩))
    (fun os started H enc _ => stateSince_lifted os started H enc)
#print axioms stateSince_holds
end
end Go.Proofs.Ytimibkjjcnpkjaa
