/- sure, walked. -/
import Derived.Test.YtfbbkeekpkbjhaaDoorP2
namespace Go.Proofs.YtfbbkeekpkbjhaaDoor
open Go.RowKit
def Empty (m : Int → Int → Option Nat) : Prop := ∀ a b, m a b = none
theorem new_qs (n : Nat) (w : World) (h1 : 1 ≤ n) (h2 : n ≤ 65536) :
    Calls Tryd.prog 6 #[.int .i64 n] w fun x w' => x = .returned (.tuple #[.pointer (some ⟨w.heap.size + 1, 0, none⟩), .nilIface]) ∧ QS w.heap.size w' (w.heap.size + 1) w.heap.size (.slice none 0 0) n 0 (fun _ => ⟨0, 0, 0⟩) (fun _ _ => none) ∧ Below w.heap.size w w' :=
  (new_walk n w h1 h2).mono fun x w' ⟨hx, hq, hr, hb⟩ => ⟨hx, ⟨hq, hr, ⟨fun i hi => by omega, fun a b v h => by cases h⟩, fun c c0 cn => by omega, Or.inl ⟨rfl, rfl⟩, by omega, by omega⟩, hb⟩
theorem QS.none_of {B : Nat} {w : World} {q r : Nat} {hv : Value} {room : Int} {n : Nat} {f : Nat → Ev} {m : Int → Int → Option Nat} (h : QS B w q r hv room n f m) {a b : Int} (hno : ∀ x, Mem n f x → ¬ (x.k = a ∧ x.d = b)) : m a b = none := by
  cases hm : m a b with
  | none => rfl
  | some i =>
    obtain ⟨hi, h1, h2⟩ := h.mo.of_ _ _ _ hm
    exact absurd ⟨h1, h2⟩ (hno _ ⟨i, hi, rfl⟩)
theorem QS.some_of {B : Nat} {w : World} {q r : Nat} {hv : Value} {room : Int} {n : Nat} {f : Nat → Ev} {m : Int → Int → Option Nat} (h : QS B w q r hv room n f m) {x : Ev} (hx : Mem n f x) : ∃ i, i < n ∧ f i = x ∧ m x.k x.d = some i := by
  obtain ⟨i, hi, rfl⟩ := hx
  exact ⟨i, hi, rfl, h.mo.at_ i hi⟩
theorem QS.rep {B : Nat} {w : World} {q r : Nat} {hv : Value} {room : Int} {n : Nat} {f : Nat → Ev} {m : Int → Int → Option Nat} (h : QS B w q r hv room n f m) (hn : 0 < n) : ∃ g cap, hv = .slice (some ⟨g, 0, none⟩) n cap ∧ QRep w q r g cap room n f m ∧ B ≤ g := by
  rcases h.hp with ⟨h1, _⟩ | ⟨g, cap, e, hr, hb⟩
  · omega
  · subst e; exact ⟨g, cap, rfl, ⟨h.qb, hr, h.mr⟩, hb⟩
set_option maxRecDepth 100000 in
set_option maxHeartbeats 1000000 in
theorem sure_walk (w : World) : Calls Tryd.prog 12 #[] w fun x w' => x = .returned (.bool true) ∧ Below w.heap.size w w' := by
  go_enter Tryd.func12, Tryd.ntmps12
  go_wp2_with (fail)
  refine (new_qs 2 w (by omega) (by omega)).mono ?_
  rintro x w1 ⟨rfl, h1, B1⟩
  have S1 := Lib.hid (set_ok w.heap.size _ _ 0 _ _ _ _ ⟨5, 2, 0⟩ w1 h1 B1.size (by decide) (by decide) (Or.inr (by decide)) (by decide) (by decide) (by decide) (by decide))
  unfold evV at S1
  go_wp2_with (fail)
  refine S1.out.mono ?_
  rintro x w2 ⟨rfl, ⟨hv2, n2, f2, m2, h2, e2, s2⟩, F2⟩
  have hn2 : n2 = 1 := by rw [e2]; rfl
  subst hn2
  have no2 : m2 1 9 = none := h2.none_of (fun x hx hk => by
    rcases (s2 x).1 hx with rfl | ⟨⟨i, hi, _⟩, _⟩
    · exact absurd hk.1 (by decide)
    · omega)
  have S2 := Lib.hid (set_ok w.heap.size _ _ 1 _ _ _ _ ⟨5, 1, 9⟩ w2 h2 (Nat.le_trans B1.size F2.bel.size) (by decide) (by decide) (Or.inr (by decide)) (by decide) (by decide) (by decide) (by decide))
  unfold evV at S2
  have B2 : Below w.heap.size w w2 := B1.trans F2.bel
  clear S1 h1 e2 F2 B1 h2
  go_wp2_with (fail)
  refine S2.out.mono ?_
  rintro x w3 ⟨rfl, ⟨hv3, n3, f3, m3, h3, e3, s3⟩, F3⟩
  have hn3 : n3 = 2 := by rw [e3, if_pos no2]
  subst hn3
  have B3 : Below w.heap.size w w3 := B2.trans F3.bel
  have hf0 : f3 0 = ⟨5, 1, 9⟩ := by
    obtain ⟨i, hi, hfi⟩ := (s3 ⟨5, 1, 9⟩).2 (Or.inl rfl)
    by_cases hi0 : i = 0
    · rw [← hi0]; exact hfi
    · have hlt := h3.od.first i (by omega) hi
      rw [hfi] at hlt
      rcases (s3 (f3 0)).1 ⟨0, by omega, rfl⟩ with h | ⟨h, _⟩
      · exact h
      · rcases (s2 _).1 h with h | ⟨⟨i, hi, _⟩, _⟩
        · rw [h] at hlt; exact absurd hlt (by decide)
        · omega
  obtain ⟨g, cap, rfl, hq, hb⟩ := h3.rep (by omega)
  have FW := Lib.hid (first_walk _ _ _ g cap 1 f3 m3 w3 hq)
  rw [hf0] at FW
  unfold evV at FW
  have HQ := Lib.hid hq
  clear S2 e3 F3 B2 h3 hf0 s2 s3 no2 hq
  go_wp2_with (fail)
  refine FW.out.mono ?_
  rintro x w4 ⟨rfl, B4⟩
  have h4 := HQ.out.below B4
  have B5 := B3.trans (B4.mono B3.size)
  clear FW HQ B4 B3
  go_upto_region 5 with (fail)
  have hbx := Blk.new w4 30 #[.int .i64 5, .int .i64 1, .int .i64 9]
  have h6 := h4.below (below_al (Below.refl _ _) (.cells #[.int .i64 5, .int .i64 1, .int .i64 9] 30))
  have B6 := B5.trans ((below_al (Below.refl w4.heap.size w4) (.cells #[.int .i64 5, .int .i64 1, .int .i64 9] 30)).mono B5.size)
  clear h4 B5
  generalize w4.alloc (Obj.cells #[Value.int IntKind.i64 5, Value.int IntKind.i64 1, Value.int IntKind.i64 9] 30) = W at *
  generalize w4.heap.size = p at *
  have x0 : W.cell? ⟨p, 0, none⟩ = some (.int .i64 5) := by rw [hbx.cell]; rfl
  have x1 : W.cell? ⟨p, 1, none⟩ = some (.int .i64 1) := by rw [hbx.cell]; rfl
  have x2 : W.cell? ⟨p, 2, none⟩ = some (.int .i64 9) := by rw [hbx.cell]; rfl
  have zp := hbx.lt
  have LN := Lib.hid (len_walk _ _ _ _ 2 _ W h6.qb)
  clear hbx h6
  go_wp2_with (fail)
  refine LN.out.mono ?_
  rintro x w7 ⟨rfl, rfl⟩
  go_wp2
  go_ret
  exact ⟨rfl, B6⟩
end Go.Proofs.YtfbbkeekpkbjhaaDoor
