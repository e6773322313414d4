/- Order, Depths, and two lists of numbers. -/
import Derived.Test.YtbnnbhblfclomaaDoorK3
namespace Go.Proofs.YtbnnbhblfclomaaDoor
open Go.RowKit
set_option linter.unusedSimpArgs false
set_option linter.unusedVariables false
def OrderSaid (E : Ways) (n : Nat) (W : World) (x : Ending) (w' : World) : Prop :=
  (∃ (o : List Nat) (dep : Nat → Nat), Sorted E n o dep ∧ ((o.length = n ∧ ∃ ov, x = .returned (.tuple #[ov, .nilIface]) ∧ w'.ownsRow W.heap.size 3 1 ov o.length (nats o)) ∨ (o.length ≠ n ∧ x = .returned (.tuple #[.slice none 0 0, .iface 48 (.int .i64 9)])))) ∧ Below W.heap.size W w'
set_option maxRecDepth 100000 in
theorem order_ok (n : Nat) (v : Value) (E : Ways) (w : World) (hL : Pairs w v (castE E)) (hE : ∀ e, e ∈ E → e.1 < n ∧ e.2 < n) (hn : n ≤ 4096) (hm : E.length ≤ 1048576) :
    Calls Tryd.prog 20 #[.int .i64 n, v] w (OrderSaid E n w) := by
  have CK := check_walk n v (castE E) w hL
  rw [chkF_ok hE hn hm, errI_zero] at CK
  have HCK := Lib.hid CK
  have HL := Lib.hid hL
  have HE := Lib.hid hE
  clear CK hL hE
  go_enter Tryd.func20, Tryd.ntmps20
  go_wp2_with (fail)
  refine HCK.out.mono ?_
  rintro x w1 ⟨rfl, B1⟩
  have ST := Lib.hid (sort_walk n v E w1 (HL.out.below B1) HE.out hn hm)
  go_wp2_with (fail)
  refine ST.out.mono ?_
  rintro x w2 ⟨o, dep, ov, gd, hs, rfl, ho, hg, hb, B2⟩
  have B := below_trans B1 B2
  have HO := Lib.hid (owns_low ho B1.size)
  have HS := Lib.hid hs
  clear ho hs hb ST HCK B1 B2 hg
  by_cases hl : o.length = n
  · rw [decide_eq_true hl]
    have HH := Lib.hid hl
    clear hl
    go_wp2
    go_ret2
    exact ⟨⟨o, dep, HS.out, .inl ⟨HH.out, _, rfl, HO.out⟩⟩, B⟩
  · rw [decide_eq_false hl]
    have HH := Lib.hid hl
    clear hl
    go_wp2
    go_ret2
    exact ⟨⟨o, dep, HS.out, .inr ⟨HH.out, rfl⟩⟩, B⟩
theorem list_eq_of {l m : List Nat} (hl : l.length = m.length) (h : ∀ j, j < l.length → l.getD j 0 = m.getD j 0) : l = m := by
  apply List.ext_getElem hl
  intro i h1 h2
  have := h i h1
  rw [List.getD_eq_getElem?_getD, List.getD_eq_getElem?_getD, List.getElem?_eq_getElem h1, List.getElem?_eq_getElem h2] at this
  simpa using this
theorem Reads.form {w : World} {v : Value} {l : List Nat} (h : Reads w v l) : ∃ A cap, v = .slice A l.length cap ∧ (0 < l.length → ∃ g o, A = some ⟨g, o, none⟩ ∧ ∀ j, j < l.length → w.cell? ⟨g, o + j, none⟩ = some (.int .i64 ((l.getD j 0 : Nat) : Int))) := by
  obtain ⟨A, cap, rfl, h⟩ := h
  refine ⟨A, cap, rfl, fun hn => ?_⟩
  rcases h with ⟨_, _, h⟩ | ⟨g, o, rfl, _, hc⟩
  · rw [h] at hn; simp at hn
  · refine ⟨g, o, rfl, fun j hj => ?_⟩
    rw [List.getD_eq_getElem?_getD, List.getElem?_eq_getElem hj]
    exact hc j _ (List.getElem?_eq_getElem hj)
theorem drewN_add (w : World) (a b : Nat) : (w.drewN a).drewN b = w.drewN (a + b) := by simp [World.drewN, Nat.add_assoc]
def IntsSaid (l m : List Nat) (W : World) (x : Ending) (w' : World) : Prop := x = .returned (.bool (decide (l = m))) ∧ ∃ q, w' = W.drewN q
set_option maxRecDepth 100000 in
set_option maxHeartbeats 1000000 in
theorem ints_walk (v u : Value) (l m : List Nat) (w : World) (hl : Reads w v l) (hm : Reads w u m) (hb : l.length ≤ 1048576) (hb2 : m.length ≤ 1048576) :
    Calls Tryd.prog 10 #[v, u] w (IntsSaid l m w) := by
  obtain ⟨A, cap, rfl, hA⟩ := hl.form
  obtain ⟨C, cap2, rfl, hC⟩ := hm.form
  have HA := Lib.hid hA
  have HC := Lib.hid hC
  clear hl hm hA hC
  by_cases hlen : l.length = m.length
  · have dl : ((l.length : Int) != (m.length : Int)) = false := by rw [hlen]; simp
    have HLM := Lib.hid hlen
    clear hlen
    generalize hln : l.length = n at *
    generalize hmn : m.length = k at *
    have HN := Lib.hid hln
    have HK := Lib.hid hmn
    clear hln hmn
    go_enter Tryd.func10, Tryd.ntmps10
    go_upto_region 4 with (fail)
    go_loopw [5] (fun iv wr => ∃ i q : Nat, iv = .int .i64 i ∧ i ≤ n ∧ (∀ j, j < i → l.getD j 0 = m.getD j 0) ∧ wr = w.drewN q) (fun iv _ => n - (intOf iv).toNat)
    case atStart => exact ⟨0, 0, rfl, Nat.zero_le _, fun j hj => by omega, rfl⟩
    case round =>
      obtain ⟨i, q, rfl, hi, hp, rfl⟩ := hrel
      have HP := Lib.hid hp
      clear hp
      by_cases hin : i < n
      · have d0 : decide ((i : Int) < (n : Int)) = true := decide_eq_true (by omega)
        obtain ⟨g, o, rfl, hc⟩ := HA.out (by omega)
        obtain ⟨g2, o2, rfl, hc2⟩ := HC.out (by have := HLM.out; omega)
        have c1 : w.cell? ⟨g, o + i, none⟩ = _ := hc i hin
        have c2 : w.cell? ⟨g2, o2 + i, none⟩ = _ := hc2 i (by have := HLM.out; omega)
        have i0 : (0 : Int) ≤ (i : Int) := by omega
        have i1 : (i : Int) < (n : Int) := by omega
        have i2 : (i : Int) < (k : Int) := by have := HLM.out; omega
        clear hc hc2
        generalize hla : l.getD i 0 = la at *
        generalize hma : m.getD i 0 = ma at *
        have HLA := Lib.hid hla
        have HMA := Lib.hid hma
        clear hla hma
        by_cases hlm : la = ma
        · have d1 : ((la : Int) != (ma : Int)) = false := by rw [hlm]; simp
          have HEQ := Lib.hid hlm
          clear hlm
          go_upto_region 6 with (fail)
          go_quiet (fail)
          go_wp2
          go_roundw
          case rel => exact ⟨i + 1, _, by go_num, by omega, fun j hj => by
            by_cases h : j = i
            · subst h; rw [HLA.out, HMA.out]; exact HEQ.out
            · exact HP.out j (by omega), rfl⟩
          case measure => simp [intOf]; omega
        · have d1 : ((la : Int) != (ma : Int)) = true := by rw [bne_iff_ne]; omega
          have hne : ¬ l = m := fun c => hlm (by rw [← HLA.out, ← HMA.out, c])
          have HR := Lib.hid (decide_eq_false hne)
          clear hlm hne
          go_upto_region 6 with (fail)
          go_quiet (fail)
          go_wp2
          go_ret
          exact ⟨by rw [HR.out]; rfl, _, drewN_add _ _ _⟩
      · have d0 : decide ((i : Int) < (n : Int)) = false := decide_eq_false (by omega)
        have he : l = m := list_eq_of (by rw [HN.out, HK.out]; exact HLM.out) (fun j hj => HP.out j (by rw [HN.out] at hj; omega))
        have HR := Lib.hid (decide_eq_true he)
        clear he
        go_wp2
        go_ret
        exact ⟨by rw [HR.out]; rfl, _, rfl⟩
  · have dl : ((l.length : Int) != (m.length : Int)) = true := by rw [bne_iff_ne]; omega
    have hne : ¬ l = m := fun c => hlen (by rw [c])
    have HR := Lib.hid (decide_eq_false hne)
    clear hne hlen
    go_enter Tryd.func10, Tryd.ntmps10
    go_wp2
    go_ret
    exact ⟨by rw [HR.out]; rfl, 0, rfl⟩
end Go.Proofs.YtbnnbhblfclomaaDoor
