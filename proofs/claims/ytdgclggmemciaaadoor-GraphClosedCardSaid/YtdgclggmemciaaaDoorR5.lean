/- The order that the document's answer finds. -/
import Derived.Test.YtdgclggmemciaaaDoorR2
import Derived.Test.YtdgclggmemciaaaDoorK3
namespace Go.Proofs.YtdgclggmemciaaaDoor
open Go.RowKit
set_option linter.unusedSimpArgs false
set_option linter.unusedVariables false
def freeT (E : Ways) (o : List Nat) (x i : Nat) : Bool := !decide (x ∈ o) && (E.take i).all (fun e => !(e.2 == x && !decide (e.1 ∈ o)))
theorem freeT_zero (E : Ways) (o : List Nat) (x : Nat) : freeT E o x 0 = !decide (x ∈ o) := by unfold freeT; simp
theorem freeT_succ (E : Ways) (o : List Nat) (x i a b : Nat) (h : E[i]? = some (a, b)) : freeT E o x (i + 1) = (freeT E o x i && !(b == x && !decide (a ∈ o))) := by
  unfold freeT
  rw [List.take_add_one, h, List.all_append]; simp [Bool.and_assoc]
theorem freeT_all (E : Ways) (n : Nat) (o : List Nat) (x i : Nat) (hx : x < n) (hi : E.length ≤ i) : freeT E o x i = true ↔ Free E n o x := by
  unfold freeT Free
  rw [List.take_of_length_le hi, Bool.and_eq_true, List.all_eq_true]
  constructor
  · rintro ⟨h1, h2⟩
    refine ⟨hx, by simpa using h1, fun a ha => ?_⟩
    have := h2 _ ha
    simpa using this
  · rintro ⟨_, h1, h2⟩
    refine ⟨by simpa using h1, ?_⟩
    rintro ⟨a, b⟩ he
    by_cases c : b = x
    · subst c; simp [h2 a he]
    · simp [c]
def inB (o : List Nat) (y : Nat) : Bool := decide (y ∈ o)
theorem inB_snoc (o : List Nat) (x : Nat) : updB (inB o) x = inB (o ++ [x]) := by
  funext y
  unfold updB inB
  by_cases c : y = x <;> simp [c]
def RefOrderSaid (E : Ways) (n : Nat) (W : World) (x : Ending) (w' : World) : Prop := ∃ (o : List Nat) (ov : Value), Gre E n o ∧ o.length = n ∧ x = .returned ov ∧ w'.ownsRow W.heap.size 3 1 ov o.length (nats o) ∧ Below W.heap.size W w'
set_option maxRecDepth 100000 in
set_option maxHeartbeats 2000000 in
theorem refOrder_walk (n : Nat) (A : Option Addr) (cap : Nat) (E : Ways) (w : World) (hL : Pairs w (.slice A E.length cap) (castE E)) (hE : ∀ e, e ∈ E → e.1 < n ∧ e.2 < n) (hn : n ≤ 4096) (hm : E.length ≤ 1048576) (hA : Acyc E) :
    Calls Tryd.prog 19 #[.int .i64 n, .slice A E.length cap] w (RefOrderSaid E n w) := by
  obtain ⟨i0, hi0, hz0, hz1, hz2⟩ := info_parts info3
  have HM := make_bools n hn w
  have HL := Lib.hid hL
  have HE := Lib.hid hE
  have HAC := Lib.hid hA
  have n0 : (0 : Int) ≤ (n : Int) := by omega
  have hb0 := Lib.hid (Blk.new w 4 (boolsA n (fun _ => false)))
  have B0 := below_al (Below.refl w.heap.size w) (.cells (boolsA n (fun _ => false)) 4)
  clear hL hE hA
  generalize hm' : E.length = m at *
  have HLEN := Lib.hid hm'
  clear hm'
  go_enter Tryd.func19, Tryd.ntmps19
  go_upto_region 3 with (fail)
  clear HM
  generalize hW : w.alloc (.cells (boolsA n (fun _ => false)) 4) = W0 at *
  clear hW
  go_loopg [6] n (fun gh ov wr => ∃ o : List Nat, Gre E n o ∧ wr.ownsRow w.heap.size 3 1 ov o.length (nats o) ∧ ov.ownBlock ≠ some w.heap.size ∧ Blk wr w.heap.size 4 (boolsA n (inB o)) ∧ Below w.heap.size w wr ∧ n ≤ gh + o.length)
  case atStart => exact ⟨[], .nil, World.ownsRow_nil _ _ _ _, by simp [Value.ownBlock], hb0.out, B0, by simp⟩
  case round =>
    clear B0 hb0
    obtain ⟨o, hG, hv, hvb, hb, Br, hgh⟩ := hrel
    obtain ⟨A2, cap2, rfl⟩ := owns_form hv
    have HG := Lib.hid hG
    have HV := Lib.hid hv
    have HB := Lib.hid hb
    have hle := hG.le
    clear hG hv hb
    by_cases hon : o.length < n
    · have d0 : decide ((o.length : Int) < (n : Int)) = true := decide_eq_true (by omega)
      go_upto_region 5 with (fail)
      go_loop [6, 7] (fun ov xv => ∃ x : Nat, ov = .slice A2 o.length cap2 ∧ xv = .int .i64 x ∧ x ≤ n ∧ ∀ y, y < x → ¬ Free E n o y) (fun _ xv => n - (intOf xv).toNat)
      case atStart => exact ⟨0, rfl, rfl, Nat.zero_le _, fun y hy => by omega⟩
      case round =>
        obtain ⟨x, rfl, rfl, hx, hno⟩ := hrel
        have HN := Lib.hid hno
        clear hno
        by_cases hxn : x < n
        · have d1 : decide ((x : Int) < (n : Int)) = true := decide_eq_true (by omega)
          have x0 : (0 : Int) ≤ (x : Int) := by omega
          have x1 : (x : Int) < (n : Int) := by omega
          have c0 : wr.cell? ⟨w.heap.size, x, none⟩ = some (.bool (inB o x)) := by rw [HB.out.cell]; exact boolsA_get _ hxn
          have f0 := HB.out.frozen x
          have zb := HB.out.lt
          have hz0' := Lib.hid (show (!inB o x) = freeT E o x 0 by rw [freeT_zero]; rfl)
          have HOS := Lib.hid (inB_snoc o x)
          have HIN := Lib.hid (fun a => show inB o a = decide (a ∈ o) from rfl)
          go_upto_region 9 with (fail)
          go_loop [8, 9] (fun fv iv => ∃ i : Nat, iv = .int .i64 i ∧ i ≤ m ∧ fv = .bool (freeT E o x i)) (fun _ iv => m - (intOf iv).toNat)
          case atStart => exact ⟨0, rfl, Nat.zero_le _, by rw [← hz0'.out]⟩
          case round =>
            obtain ⟨i, rfl, hi, rfl⟩ := hrel
            by_cases him : i < m
            · have d2 : decide ((i : Int) < (m : Int)) = true := decide_eq_true (by omega)
              obtain ⟨⟨a, b⟩, hab⟩ : ∃ e, E[i]? = some e := ⟨_, List.getElem?_eq_getElem (by rw [HLEN.out]; omega)⟩
              have hab' := HE.out _ (List.mem_of_getElem? hab)
              have hl' := HL.out
              rw [← HLEN.out] at hl'
              obtain ⟨ad, rfl, c1, c2, hlt⟩ := way_cells hl' Br hab
              have HR := Lib.hid (freeT_succ E o x i a b hab)
              have c3 : wr.cell? ⟨w.heap.size, a, none⟩ = some (.bool (inB o a)) := by rw [HB.out.cell]; exact boolsA_get _ hab'.1
              have q0 : ((b : Int) == (x : Int)) = (b == x) := by rw [Bool.eq_iff_iff, beq_iff_eq, beq_iff_eq]; omega
              have hia := HIN.out a
              have a0 : (0 : Int) ≤ (a : Int) := by omega
              have a1 : (a : Int) < (n : Int) := by have := hab'.1; omega
              have i0' : (0 : Int) ≤ (i : Int) := by omega
              have i1 : (i : Int) < (m : Int) := by omega
              rw [← hia] at HR
              clear hab hab' hl' c0 f0 hia
              generalize freeT E o x i = ft at *
              generalize hia : inB o a = ia at *
              generalize hbx : (b == x) = bx at *
              clear hia hbx
              cases bx
              · go_wp2
                go_round
                case rel => exact ⟨i + 1, by go_num, by omega, by rw [HR.out]; simp⟩
                case measure => simp [intOf]; omega
              · cases ia
                · go_wp2
                  go_round
                  case rel => exact ⟨i + 1, by go_num, by omega, by rw [HR.out]; simp⟩
                  case measure => simp [intOf]; omega
                · go_wp2
                  go_round
                  case rel => exact ⟨i + 1, by go_num, by omega, by rw [HR.out]; simp⟩
                  case measure => simp [intOf]; omega
            · have d2 : decide ((i : Int) < (m : Int)) = false := decide_eq_false (by omega)
              have hfa := freeT_all E n o x i hxn (by rw [HLEN.out]; omega)
              cases hft : freeT E o x i with
              | true =>
                have hF := hfa.1 hft
                have hG2 := Lib.hid (Gre.snoc HG.out hF (fun y hy => Classical.byContradiction fun c => HN.out y (by omega) hy))
                have hput0 := HB.out.put x (.bool true) (boolsA_set n x _)
                rw [HOS.out] at hput0
                have Bp := below_put (p := ⟨w.heap.size, x, none⟩) Br (Nat.le_refl _) (.bool true)
                have hv' := owns_far (w1 := wr.setCell ⟨w.heap.size, x, none⟩ (.bool true)) HV.out (fun k e => Below.heap_setCell _ _ _ _ (fun c => hvb (by rw [e]; exact congrArg some c)))
                have HP := Lib.hid hput0
                have HV2 := Lib.hid hv'
                clear hfa hft hF hput0 hv'
                go_upto_region 15 with (fail)
                generalize hW2 : wr.setCell ⟨w.heap.size, x, none⟩ (.bool true) = W2 at *
                clear hW2 c0 f0
                have hn1 : ∀ u ∈ [Value.int .i64 (x : Int)], u.oneCell' = true := by simp [Value.oneCell']
                have hsz4 : w.heap.size ≤ (W2.alloc (.cells #[.int .i64 (x : Int)] 3)).heap.size := by have := Bp.size; simp; omega
                have hnw := Lib.hid (nats_news W2 x 3)
                have hva := HV2.out.alloc (.cells #[.int .i64 (x : Int)] 3)
                go_wp2_with (at_builtin; refine wpList_append_own_at _ rfl _ _ 25 rfl w.heap.size 3 i0 (.int .i64 0) 1 8 Tryd.underlying25 hi0 hz0 hz1 hz2 rfl (by decide) (.slice A2 o.length cap2) o.length (nats o) rfl hva ⟨W2.heap.size, 0, none⟩ 1 1 [.int .i64 (x : Int)] rfl rfl hnw.out hn1 (by simp only [maxLen]; omega) (by omega) hsz4 ?_; intro v3 w4 own4 gr4 nil4 at4)
                have hl4 : o.length + 1 = (o ++ [x]).length := by simp
                rw [← nats_snoc, hl4] at own4
                have hgr := HP.out.lt
                have hn4 : v3.ownBlock ≠ some w.heap.size := by
                  rcases at4 with c | c
                  · rw [c]; exact hvb
                  · rw [c]; simp; omega
                have hb4 : Blk w4 w.heap.size 4 (boolsA n (inB (o ++ [x]))) := (gr4.block _ (by simp; omega) (Ne.symm hvb)).trans (HP.out.alloc _)
                have B4 := below_grown (below_al Bp _) gr4 (fun e he => (HV2.out.lt e he).1) hsz4
                have HV4 := Lib.hid own4
                have HB4 := Lib.hid hb4
                clear own4 hb4 gr4 nil4 at4 hva hl4
                go_wp2
                go_roundg (gk - 1)
                case measure => omega
                case rel => exact ⟨o ++ [x], hG2.out, HV4.out, hn4, HB4.out, B4, by simp; omega⟩
              | false =>
                have hF : ¬ Free E n o x := fun h => by rw [hfa.2 h] at hft; exact Bool.noConfusion hft
                have HF := Lib.hid hF
                clear hfa hft hF
                go_wp2
                go_round
                case rel => exact ⟨x + 1, rfl, by go_num, by omega, fun y hy => by
                  by_cases h : y = x
                  · subst h; exact HF.out
                  · exact HN.out y (by omega)⟩
                case measure => simp [intOf]; omega
        · exfalso
          obtain ⟨y, hy⟩ := HG.out.next HE.out HAC.out hon
          exact HN.out y (by have := hy.1; omega) hy
    · have d0 : decide ((o.length : Int) < (n : Int)) = false := decide_eq_false (by omega)
      have hon' : o.length = n := by omega
      have HO := Lib.hid hon'
      clear hon'
      go_wp2
      go_ret
      exact ⟨o, _, HG.out, HO.out, rfl, HV.out, Br⟩
end Go.Proofs.YtdgclggmemciaaaDoor
