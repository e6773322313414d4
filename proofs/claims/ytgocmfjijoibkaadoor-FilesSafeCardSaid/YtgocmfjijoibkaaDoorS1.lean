/- What comes whatever the input is. -/
import Derived.Test.YtgocmfjijoibkaaDoorO2
import Derived.Laws.BytesString
import Derived.Lib.SlBytesConst
namespace Go.Proofs.YtgocmfjijoibkaaDoor
open Go.RowKit
set_option linter.unusedSimpArgs false
set_option linter.unusedVariables false
def nmA : ByteArray := ⟨#[97]⟩
def nmB : ByteArray := ⟨#[98]⟩
def stA (v : Value) : Stp := ⟨nmA, ByteArray.empty, v, [120], true, false⟩
def stB (v : Value) : Stp := ⟨nmB, ByteArray.empty, v, [], true, false⟩
def flA : List Fl := [([97], [120])]
theorem doA (v : Value) : doF [] (stA v) = flA := rfl
theorem crashA (v : Value) : crashF flA [stB v] 0 0 = flA := rfl
theorem new_ok (w : World) : Calls Tryd.prog 7 #[] w fun y w' => ∃ d, y = .returned (.pointer (some ⟨d, 0, none⟩)) ∧ DiskOk w' w.heap.size d ⟨[], [], []⟩ ∧ Below w.heap.size w w' := by
  refine Calls.mono (new_walk w) ?_
  rintro y w' ⟨d, h1, h2, h3⟩
  exact ⟨d, h1, ⟨h2, Okay.synced (fun f hf => by cases hf) (by simp)⟩, h3⟩
def SureSaid (w : World) (y : Ending) (w' : World) : Prop := y = .returned (.bool true) ∧ Below w.heap.size w w'
theorem RdY.conv {w : World} {v : Value} {bs : List UInt8} (h : RdY w v bs) : (convert 29 9 v).run Tryd.prog w = .ok (.string ⟨bs.toArray⟩) w := by
  obtain ⟨A, cap, rfl⟩ := h.form
  cases A with
  | none =>
    have hb : bs = [] := by
      rcases h with ⟨A, c, e, rfl, _⟩ | ⟨g', o', c, cs, fr, e, h1, h2, h3, h4⟩
      · rfl
      · cases e
    subst hb
    have := run_convert_bytes_string (P := Tryd.prog) w 29 9 5 none 0 cap Tryd.underlying29 Tryd.underlying5 Tryd.underlying9
    rw [show ([] : List UInt8).length = 0 from rfl, this]
    rfl
  | some ad =>
    refine run_convert_bytes_back w 29 9 5 ad cap bs Tryd.underlying29 Tryd.underlying5 Tryd.underlying9 (fun j hj => ?_)
    rw [h.cellsA.2 j hj]
    simp [List.getD_eq_getElem?_getD, hj]
def OkSaid (B d : Nat) (R : FS → Prop) (w : World) (y : Ending) (w' : World) : Prop := y = .returned .nilIface ∧ (∃ x, R x ∧ DiskOk w' B d x) ∧ Fr B w w'
theorem ErrSaid.ok {B d : Nat} {R R' : FS → Prop} {n : Int} {w w' : World} {y : Ending} (h : ErrSaid B d R n w y w') (hn : n = 0) (hR : ∀ x, R x → R' x) : OkSaid B d R' w y w' := by
  subst hn
  obtain ⟨h1, ⟨x, hx, hd⟩, h3⟩ := h
  exact ⟨h1, ⟨x, hR x hx, hd⟩, h3⟩
theorem sure1 (B d : Nat) (v : Value) (w : World) (h : DiskOk w B d ⟨[], [], []⟩) (hv : RdY w v [120]) :
    Calls Tryd.prog 9 #[.pointer (some ⟨d, 0, none⟩), .string ⟨#[97]⟩, v] w (OkSaid B d (fun x => ∃ v, x = ⟨flA, [], [stA v]⟩) w) := by
  have hz : writeN ([] : List Fl) ([] : List Stp).length nmA.data.toList [120].length = 0 := by decide
  refine Calls.mono (write_ok B d _ nmA v [120] w h hv (by simp)) fun y w' h => h.ok hz ?_
  rintro x ⟨v2, hx⟩
  exact ⟨v2, hx.trans (if_pos hz)⟩
theorem sure2 (B d : Nat) (x : FS) (w : World) (h : DiskOk w B d x) : Calls Tryd.prog 13 #[.pointer (some ⟨d, 0, none⟩)] w (OkSaid B d (fun x' => x' = ⟨x.now, x.now, []⟩) w) :=
  Calls.mono (sync_ok B d x w h) fun y w' h => h.ok rfl fun x h => h
theorem sure3 (B d : Nat) (w : World) (h : DiskOk w B d ⟨flA, flA, []⟩) :
    Calls Tryd.prog 9 #[.pointer (some ⟨d, 0, none⟩), .string ⟨#[98]⟩, .slice none 0 0] w (OkSaid B d (fun x => ∃ v, x = ⟨doF flA (stB v), flA, [stB v]⟩) w) := by
  have hz : writeN flA ([] : List Stp).length nmB.data.toList ([] : List UInt8).length = 0 := by decide
  refine Calls.mono (write_ok B d _ nmB _ [] w h (RdY.nil _) (by simp)) fun y w' h => h.ok hz ?_
  rintro x ⟨v2, hx⟩
  exact ⟨v2, hx.trans (if_pos hz)⟩
theorem sure4 (B d : Nat) (v : Value) (w : World) (h : DiskOk w B d ⟨doF flA (stB v), flA, [stB v]⟩) :
    Calls Tryd.prog 22 #[.pointer (some ⟨d, 0, none⟩), .int .i64 0, .int .i64 0] w (OkSaid B d (fun x => x = ⟨flA, flA, []⟩) w) := by
  have hcb : ¬ crashBad [stB v].length 0 0 := by unfold crashBad; simp
  refine Calls.mono (crash_ok B d _ 0 0 (by omega) (by omega) (by omega) (by omega) w h) fun y w' h => h.ok (if_neg hcb) ?_
  intro x hx
  exact hx.trans (if_neg hcb)
def Read1 (w : World) (y : Ending) (w' : World) : Prop := ∃ A c, y = .returned (.tuple #[.slice A 1 c, .nilIface]) ∧ RdY w' (.slice A 1 c) [120] ∧ Below w.heap.size w w'
theorem sure5 (B d : Nat) (w : World) (h : DiskOk w B d ⟨flA, flA, []⟩) : Calls Tryd.prog 18 #[.pointer (some ⟨d, 0, none⟩), .string ⟨#[97]⟩] w (Read1 w) := by
  refine Calls.mono (read_walk B d flA flA [] nmA w h.1 (fun bs e => by cases e; simp)) ?_
  rintro y w' ⟨v, h1, h2, h3⟩
  rw [show checkN flA nmA.data.toList = 0 from by decide] at h1 h2
  obtain ⟨A, c, rfl⟩ := h2.form
  exact ⟨A, c, h1, h2, h3⟩
theorem sure6 (B d : Nat) (w : World) (h : DiskOk w B d ⟨flA, flA, []⟩) : Calls Tryd.prog 11 #[.pointer (some ⟨d, 0, none⟩)] w (fun y w' => (∃ A c, y = .returned (.slice A 1 c)) ∧ Below w.heap.size w w') := by
  refine Calls.mono (names_walk B d flA flA [] w h.1) ?_
  rintro y w' ⟨v, B0, h1, h2, h3, h4, h5⟩
  refine ⟨?_, h5⟩
  rcases h3.2 with ⟨rfl, h0⟩ | ⟨g, cap, cur, rfl, _⟩
  · cases h0
  · exact ⟨_, _, h1⟩
set_option maxHeartbeats 4000000 in
set_option maxRecDepth 100000 in
theorem sure_walk (w : World) : Calls Tryd.prog 14 #[] w (SureSaid w) := by
  have NW := new_ok w
  go_enter Tryd.func14, Tryd.ntmps14
  go_upto_region 1 with (fail)
  go_wp2_with (fail)
  refine Calls.mono NW ?_
  rintro y w1 ⟨d, rfl, h1, hB1⟩
  clear NW
  generalize hB : w.heap.size = B at *
  have hcv := Lib.run_convert_bytes_const (P := Tryd.prog) w1 29 5 #[.int .u8 120] 1 1 Tryd.underlying29 Tryd.underlying5
  have hal1 := (Below.refl w1.heap.size w1).alloc (Nat.le_refl _) (.cells #[.int .u8 120] 5 ((#[Value.int .u8 120] : Array Value).size, (#[Value.int .u8 120] : Array Value).size + 1))
  have hr1 : RdY (w1.alloc (.cells #[.int .u8 120] 5 ((#[Value.int .u8 120] : Array Value).size, (#[Value.int .u8 120] : Array Value).size + 1))) (.slice (some ⟨w1.heap.size, 0, none⟩) 1 1) [120] := .inr ⟨_, 0, 1, _, _, rfl, by simp, heap_alloc_new w1 _, by simp, fun i hi => by
    have : i = 0 := by simp at hi; omega
    subst this; rfl⟩
  have CW1 := sure1 B d _ _ (h1.below hal1) hr1
  have hF1 : Fr B w (w1.alloc (.cells #[.int .u8 120] 5 ((#[Value.int .u8 120] : Array Value).size, (#[Value.int .u8 120] : Array Value).size + 1))) := by
    have k : Fr B w w1 := by subst hB; exact Fr.below (Nat.le_refl _) hB1
    exact k.trans (Fr.below h1.1.lo.2 hal1)
  have HF1 := Lib.hid hF1
  clear h1 hB1 hal1 hr1 hF1
  go_wp2_with (fail)
  refine Calls.mono CW1 ?_
  rintro y w2 ⟨rfl, ⟨x2, ⟨v2, rfl⟩, h2⟩, hF2⟩
  have CW2 := sure2 B d _ w2 h2
  have HF2 := Lib.hid (HF1.out.trans hF2)
  clear CW1 h2 hF2 HF1
  go_wp2_with (fail)
  refine Calls.mono CW2 ?_
  rintro y w3 ⟨rfl, ⟨x3, rfl, h3⟩, hF3⟩
  have CW3 := sure3 B d w3 h3
  have HF3 := Lib.hid (HF2.out.trans hF3)
  clear CW2 h3 hF3 HF2
  go_wp2_with (fail)
  refine Calls.mono CW3 ?_
  rintro y w4 ⟨rfl, ⟨x4, ⟨v4, rfl⟩, h4⟩, hF4⟩
  have CW4 := sure4 B d _ w4 h4
  have HF4 := Lib.hid (HF3.out.trans hF4)
  clear CW3 h4 hF4 HF3
  go_wp2_with (fail)
  refine Calls.mono CW4 ?_
  rintro y w5 ⟨rfl, ⟨x5, rfl, h5⟩, hF5⟩
  have CW5 := sure5 B d w5 h5
  have H5 := Lib.hid h5
  have HF5 := Lib.hid (HF4.out.trans hF5)
  clear CW4 h5 hF5 HF4 hcv
  go_wp2_with (fail)
  refine Calls.mono CW5 ?_
  rintro y w6 ⟨A6, c6, rfl, hr6, hB6⟩
  have hc6 := hr6.conv
  have NM := sure6 B d w6 (H5.out.below hB6)
  have HF6 := Lib.hid (HF5.out.trans (Fr.below H5.out.1.lo.2 hB6))
  have HB6 := Lib.hid (show B ≤ w6.heap.size from (H5.out.below hB6).1.lo.2)
  clear CW5 hr6 hB6 HF5
  go_wp2_with (fail)
  refine Calls.mono NM ?_
  rintro y w7 ⟨⟨A7, c7, rfl⟩, hB7⟩
  have HF7 := Lib.hid (HF6.out.trans (Fr.below HB6.out hB7))
  clear NM hB7 HF6
  go_wp2_with (fail)
  go_ret
  exact ⟨rfl, by rw [hB]; exact HF7.out.1⟩
end Go.Proofs.YtgocmfjijoibkaaDoor
