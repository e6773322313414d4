/- Blocked, walked. -/
import Derived.Test.YtbnnbhblfclomaaDoorB4
import Derived.Test.YtbnnbhblfclomaaDoorB5
namespace Go.Proofs.YtbnnbhblfclomaaDoor
open Go.RowKit
set_option linter.unusedSimpArgs false
set_option linter.unusedVariables false
def BlockedSaid (D : List Dp) (S : List Int) (of_ : Int) (w : World) (y : Ending) (w' : World) : Prop :=
  y = .returned (.tuple #[.bool (blockedB D S of_), errI (blockedE D S of_)]) ∧ Below w.heap.size w w'
theorem any_range {S : List Int} (h : S.any noneS = false) : ∀ s, s ∈ S → 0 ≤ s ∧ s ≤ 3 := fun s hs => by
  have : noneS s = false := Bool.eq_false_iff.2 fun hc => by
    have : S.any noneS = true := List.any_eq_true.2 ⟨s, hs, hc⟩
    rw [h] at this; cases this
  unfold noneS at this
  rw [Bool.or_eq_false_iff] at this
  have h1 := of_decide_eq_false this.1
  have h2 := of_decide_eq_false this.2
  omega
theorem odd_range {D : List Dp} (h : D.any oddD = false) : ∀ d, d ∈ D → 0 ≤ d.m ∧ d.m ≤ 15 := fun d hd => by
  have : oddD d = false := Bool.eq_false_iff.2 fun hc => by
    have : D.any oddD = true := List.any_eq_true.2 ⟨d, hd, hc⟩
    rw [h] at this; cases this
  unfold oddD at this
  rw [Bool.or_eq_false_iff] at this
  have h1 := of_decide_eq_false this.1
  have h2 := of_decide_eq_false this.2
  omega
set_option maxRecDepth 100000 in
set_option maxHeartbeats 8000000 in
theorem blocked_walk (v u : Value) (D : List Dp) (S : List Int) (of_ : Int) (w : World) (hD : RdD w v w.heap.size D) (hS : RdI w u w.heap.size S) (hl : D.length ≤ 60) (hs : S.length ≤ 60) :
    Calls Tryd.prog 12 #[v, u, .int .i64 of_] w (BlockedSaid D S of_ w) := by
  obtain ⟨A, cap, rfl⟩ := hD.form
  obtain ⟨A1, cap1, rfl⟩ := hS.form
  have b4 := (Blk.new w 26 #[.slice A1 S.length cap1]).alloc (.cells #[.int .i64 of_] 3)
  have b5 := Blk.new1 w (.cells #[.slice A1 S.length cap1] 26) 3 #[.int .i64 of_]
  have B0 := below_al (below_al (Below.refl w.heap.size w) (.cells #[.slice A1 S.length cap1] 26)) (.cells #[.int .i64 of_] 3)
  have hszz : ((w.alloc (.cells #[.slice A1 S.length cap1] 26)).alloc (.cells #[.int .i64 of_] 3)).heap.size = w.heap.size + 1 + 1 := by simp
  have hBE : ∀ (b : Bool) (e : Int), blockedB D S of_ = b → blockedE D S of_ = e → ∀ w', Below w.heap.size w w' → BlockedSaid D S of_ w (.returned (.tuple #[.bool b, errI e])) w' := fun b e h1 h2 w' hb => ⟨by rw [h1, h2], hb⟩
  have HBE := Lib.hid hBE
  have hW : ∃ W0, (w.alloc (.cells #[.slice A1 S.length cap1] 26)).alloc (.cells #[.int .i64 of_] 3) = W0 := ⟨_, rfl⟩
  obtain ⟨W0, hW⟩ := hW
  rw [hW] at b4 b5 B0 hszz
  have HD := Lib.hid ((hD.below B0 (Nat.le_refl _)).wider B0.size)
  have HS := Lib.hid ((hS.below B0 (Nat.le_refl _)).wider B0.size)
  have CK := Lib.hid (check_dw (.slice A D.length cap) D (S.length : Int) of_ W0 HD.out hl)
  have k4 : W0.cell? ⟨w.heap.size, 0, none⟩ = some (.slice A1 S.length cap1) := by rw [b4.cell]; rfl
  have k5 : W0.cell? ⟨w.heap.size + 1, 0, none⟩ = some (.int .i64 of_) := by rw [b5.cell]; rfl
  have z4 := b4.lt
  have z5 := b5.lt
  have BL0 := Lib.hid B0
  clear hD hS hBE b4 b5 B0
  by_cases hc : checkE D S.length of_ = 0
  · obtain ⟨⟨hof0, hof1⟩, hrng⟩ := check_range (by omega) hc
    have HRG := Lib.hid hrng
    rw [hc, errI_zero] at CK
    have hE : blockedE D S of_ = if (D.any oddD || S.any noneS) = true then 1 else 0 := by unfold blockedE; rw [if_neg (by simpa using hc)]
    have HE := Lib.hid hE
    have HB := Lib.hid (show blockedB D S of_ = if blockedE D S of_ = 0 then D.any (failsD S of_) else false from rfl)
    clear hc hrng hE
    go_enter Tryd.func12, Tryd.ntmps12
    go_upto_region 1 with (fail)
    try rw [hW]
    generalize hgw : w.heap.size = gw at *
    go_wp2_with (fail)
    refine CK.out.mono ?_
    rintro y w1 ⟨rfl, B1⟩
    have HD1 := Lib.hid ((HD.out.below B1 (Nat.le_refl _)).wider B1.size)
    have HS1 := Lib.hid ((HS.out.below B1 (Nat.le_refl _)).wider B1.size)
    have k41 := bel_cell B1 k4
    have k51 := bel_cell B1 k5
    have z41 := World.block_lt_of_cell? _ _ k41
    have z51 := World.block_lt_of_cell? _ _ k51
    have BL1 := Lib.hid (BL0.out.trans (B1.mono (by have := BL0.out.size; omega)))
    have O1 := Lib.hid (hasD26 oddD (.slice A D.length cap) D w1 HD1.out (by omega) (fun W _ d _ => odd26 d W))
    clear CK B1 k4 k5 z4 z5 hW BL0 HD HS
    go_wp2_with (fail)
    refine O1.out.mono ?_
    rintro y w2 ⟨rfl, B2⟩
    have HD2 := Lib.hid ((HD1.out.below B2 (Nat.le_refl _)).wider B2.size)
    have HS2 := Lib.hid ((HS1.out.below B2 (Nat.le_refl _)).wider B2.size)
    have k42 := bel_cell B2 k41
    have k52 := bel_cell B2 k51
    have z42 := World.block_lt_of_cell? _ _ k42
    have z52 := World.block_lt_of_cell? _ _ k52
    have BL2 := Lib.hid (BL1.out.trans (B2.mono (by have := BL1.out.size; omega)))
    clear O1 B2 k41 k51 z41 z51 BL1 HD1 HS1
    cases ho : D.any oddD with
    | true =>
      rw [ho, Bool.true_or, if_pos rfl] at HE
      have HR := Lib.hid (HBE.out false 1 (by rw [HB.out, HE.out]; rfl) HE.out w2 BL2.out)
      go_wp2_with (fail)
      go_ret2
      exact HR.out
    | false =>
      rw [ho, Bool.false_or] at HE
      have HOD := Lib.hid (odd_range ho)
      have N1 := Lib.hid (hasI27 noneS (.slice A1 S.length cap1) S w2 HS2.out (by omega) (fun W _ d _ => none27 d W))
      clear ho
      go_wp2_with (fail)
      refine N1.out.mono ?_
      rintro y w3 ⟨rfl, B3⟩
      have HD3 := Lib.hid ((HD2.out.below B3 (Nat.le_refl _)).wider B3.size)
      have HS3 := Lib.hid ((HS2.out.below B3 (Nat.le_refl _)).wider B3.size)
      have k43 := bel_cell B3 k42
      have k53 := bel_cell B3 k52
      have BL3 := Lib.hid (BL2.out.trans (B3.mono (by have := BL2.out.size; omega)))
      clear N1 B3 k42 k52 z42 z52 BL2 HD2 HS2
      cases hn : S.any noneS with
      | true =>
        rw [hn, if_pos rfl] at HE
        have HR := Lib.hid (HBE.out false 1 (by rw [HB.out, HE.out]; rfl) HE.out w3 BL3.out)
        go_wp2_with (fail)
        go_ret2
        exact HR.out
      | false =>
        rw [hn, if_neg (by decide)] at HE
        rw [HE.out, if_pos rfl] at HB
        have HNS := Lib.hid (any_range hn)
        have F1 := Lib.hid (hasD29 (gw + 1) gw (failsD S of_) (.slice A D.length cap) D w3 HD3.out (by omega) (fun W hb d hd => fails29 (gw + 1) gw of_ A1 cap1 S d W (bel_cell hb k53) (bel_cell hb k43) ((HS3.out.below hb (Nat.le_refl _)).wider hb.size) (HRG.out d hd).1.1 (HRG.out d hd).1.2 (HOD.out d hd).1 (HOD.out d hd).2 HNS.out))
        clear hn k43 k53
        go_wp2_with (fail)
        refine F1.out.mono ?_
        rintro y w4 ⟨rfl, B4⟩
        have HR := Lib.hid (HBE.out _ 0 HB.out HE.out w4 (BL3.out.trans (B4.mono (by have := BL3.out.size; omega))))
        generalize D.any (failsD S of_) = bb at *
        rw [errI_zero] at HR
        clear F1 B4
        go_wp2_with (fail)
        go_ret2
        exact HR.out
  · have hE : blockedE D S of_ = checkE D S.length of_ := by unfold blockedE; rw [if_pos hc]
    have hB : blockedB D S of_ = false := by unfold blockedB; rw [hE, if_neg hc]
    have heI : errI (checkE D S.length of_) = .iface 48 (.int .i64 (checkE D S.length of_)) := if_neg hc
    rw [heI] at CK
    have HR := Lib.hid (fun w' hb => HBE.out false _ hB hE w' hb)
    rw [heI] at HR
    clear hc hE hB heI
    go_enter Tryd.func12, Tryd.ntmps12
    go_upto_region 1 with (fail)
    try rw [hW]
    generalize hgw : w.heap.size = gw at *
    go_wp2_with (fail)
    refine CK.out.mono ?_
    rintro y w1 ⟨rfl, B1⟩
    have HR1 := Lib.hid (HR.out w1 (BL0.out.trans (B1.mono (by have := BL0.out.size; omega))))
    clear CK B1 HR
    go_wp2_with (fail)
    go_ret2
    exact HR1.out
end Go.Proofs.YtbnnbhblfclomaaDoor
