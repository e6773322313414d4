/- Checks, and what is pending. -/
import Derived.Test.YtgocmfjijoibkaaDoorD3
import Derived.Test.YtgocmfjijoibkaaDoorC1
import Derived.Test.YtgocmfjijoibkaaDoorI1
namespace Go.Proofs.YtgocmfjijoibkaaDoor
open Go.RowKit
set_option linter.unusedSimpArgs false
set_option linter.unusedVariables false
theorem DiskAt.below {w w1 : World} {B d : Nat} {now sure : List Fl} {T : List Stp} (h : DiskAt w B d now sure T) (hb : Below w.heap.size w w1) : DiskAt w1 B d now sure T := by
  obtain ⟨⟨h1, h2⟩, ⟨rn, rs, sv, hd, hmn, hms, hne, hBn, hBs, how⟩, h3, h4, h5, h6⟩ := h
  have k := KeptY.below hb
  refine ⟨⟨h1, Nat.le_trans h2 hb.size⟩, ⟨rn, rs, sv, hd.below hb, hmn.kept (hb.block rn hmn.lt) k, hms.kept (hb.block rs hms.lt) k, hne, hBn, hBs, row_kept (row := none) how ⟨hb.os, hb.tape, hb.output, hb.size, fun j hj _ => hb.block j hj⟩ (fun g _ e => by cases e)⟩, h3, h4, h5, fun s hs => ⟨(h6 s hs).1.kept k, (h6 s hs).2⟩⟩
theorem Fr.below {B : Nat} {w w1 : World} (hB : B ≤ w.heap.size) (h : Below w.heap.size w w1) : Fr B w w1 := ⟨h.mono hB, KeptY.below h⟩
theorem Fr.trans {B : Nat} {a b c : World} (h : Fr B a b) (k : Fr B b c) : Fr B a c := ⟨h.1.trans k.1, h.2.trans k.2⟩
theorem Fr.refl (B : Nat) (w : World) : Fr B w w := ⟨Below.refl _ _, KeptY.refl _⟩
def checkN (F : List Fl) (s : List UInt8) : Int := if namedF s = true then (if (lookF F s).isSome = true then 0 else 8) else 11
theorem named_len {s : List UInt8} (h : namedF s = true) : s.length ≤ 32 := by unfold namedF at h; simp at h; exact h.2
def SaysB (r : Ending) (w : World) (y : Ending) (w' : World) : Prop := y = r ∧ Below w.heap.size w w'
set_option maxHeartbeats 2000000 in
set_option maxRecDepth 100000 in
theorem check_walk (B d : Nat) (now sure : List Fl) (T : List Stp) (s : ByteArray) (w : World) (h : DiskAt w B d now sure T) :
    Calls Tryd.prog 30 #[.pointer (some ⟨d, 0, none⟩), .string s] w (SaysB (.returned (errI (checkN now s.data.toList))) w) := by
  have NW := fun W => named_walk s W
  cases hn : namedF s.data.toList with
  | false =>
    have HR := Lib.hid (show errI (checkN now s.data.toList) = .iface 63 (.int .i64 11) by unfold checkN; rw [hn]; rfl)
    clear h
    go_enter Tryd.func30, Tryd.ntmps30
    go_wp2_with (go_at_call 24; refine (NW _).mono ?_; rintro y w1 ⟨rfl, hB⟩; rw [hn])
    go_ret
    exact ⟨by rw [HR.out]; rfl, hB⟩
  | true =>
    have hsz : s.size ≤ 32 := named_len hn
    go_enter Tryd.func30, Tryd.ntmps30
    go_upto_region 5 with (go_at_call 24; refine (NW _).mono ?_; rintro y w1 ⟨rfl, hB⟩; rw [hn])
    obtain ⟨_, ⟨rn, rs, sv, hd, hmn, hms, hne, hBn, hBs, how⟩, hAn, _, _⟩ := h.below hB
    have c0 : w1.cell? ⟨d, 0, none⟩ = some (.map (some rn)) := by rw [hd.cell]; rfl
    have zd := hd.lt
    obtain ⟨v, hl1, _, hv⟩ := hmn.look s (by unfold maxLen; omega)
    cases hl : (lookF now s.data.toList).isSome with
    | false =>
      have HR := Lib.hid (show errI (checkN now s.data.toList) = .iface 63 (.int .i64 8) by unfold checkN; rw [hn, hl]; rfl)
      rw [hl] at hl1
      clear h hd hmn hms how hAn hv
      go_wp2_with (fail)
      go_ret
      exact ⟨by rw [HR.out]; rfl, hB⟩
    | true =>
      have HR := Lib.hid (show errI (checkN now s.data.toList) = .nilIface by unfold checkN; rw [hn, hl]; rfl)
      rw [hl] at hl1
      clear h hd hmn hms how hAn hv
      go_wp2_with (fail)
      go_ret
      exact ⟨by rw [HR.out]; rfl, hB⟩
set_option maxHeartbeats 2000000 in
set_option maxRecDepth 100000 in
theorem pending_walk (B d : Nat) (now sure : List Fl) (T : List Stp) (w : World) (h : DiskAt w B d now sure T) :
    Calls Tryd.prog 17 #[.pointer (some ⟨d, 0, none⟩)] w fun y w' => y = .returned (.int .i64 T.length) ∧ w' = w := by
  obtain ⟨_, ⟨rn, rs, sv, hd, hmn, hms, hne, hBn, hBs, how⟩, hAn, _, _⟩ := h
  obtain ⟨As, cs, rfl⟩ : ∃ As cs, sv = .slice As T.length cs := by
    rcases how.2 with ⟨e, h0⟩ | ⟨g, cap, cur, e, _⟩
    · exact ⟨_, _, by rw [e, h0]⟩
    · exact ⟨_, _, e⟩
  have c2 : w.cell? ⟨d, 2, none⟩ = some (.slice As T.length cs) := by rw [hd.cell]; rfl
  have zd := hd.lt
  clear hd hmn hms how hAn
  go_enter Tryd.func17, Tryd.ntmps17
  go_wp2_with (fail)
  go_ret
  exact ⟨rfl, rfl⟩
/-- What a write answers. -/
def writeN (F : List Fl) (T : Nat) (s : List UInt8) (n : Nat) : Int :=
  if namedF s = true then (if 65536 < n then 2 else if (lookF F s).isNone = true ∧ 64 ≤ F.length then 10 else if 4096 ≤ T then 10 else 0) else 11
def moveN (F : List Fl) (T : Nat) (s dst : List UInt8) : Int :=
  if namedF dst = true then (if checkN F s = 0 then (if 4096 ≤ T then 10 else 0) else checkN F s) else 11
def removeN (F : List Fl) (T : Nat) (s : List UInt8) : Int := if checkN F s = 0 then (if 4096 ≤ T then 10 else 0) else checkN F s
def StepSaid (B d : Nat) (now sure : List Fl) (T : List Stp) (n : Int) (s : Stp) (w : World) (y : Ending) (w' : World) : Prop :=
  y = .returned (errI n) ∧ (if n = 0 then ∃ v, DiskAt w' B d (doF now s) sure (T ++ [{ s with v := v }]) else DiskAt w' B d now sure T) ∧ Fr B w w'
theorem errI_ne {n : Int} (h : n ≠ 0) : errI n = .iface 63 (.int .i64 n) := if_neg h
theorem checkN_cases (F : List Fl) (s : List UInt8) : checkN F s = 0 ∨ checkN F s = 8 ∨ checkN F s = 11 := by
  unfold checkN; split
  · split <;> simp
  · simp
theorem checkN_zero {F : List Fl} {s : List UInt8} (h : checkN F s = 0) : namedF s = true ∧ (lookF F s).isSome = true := by
  unfold checkN at h; split at h
  · split at h
    · exact ⟨by assumption, by assumption⟩
    · cases h
  · cases h
theorem checkN_err (F : List Fl) (s : List UInt8) (n : Int) (h : checkN F s = n) (hn : n ≠ 0) : checkN F s ≠ 0 := by rw [h]; exact hn
end Go.Proofs.YtgocmfjijoibkaaDoor
