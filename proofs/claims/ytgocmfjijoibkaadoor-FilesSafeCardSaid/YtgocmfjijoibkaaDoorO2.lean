/- An act. -/
import Derived.Test.YtgocmfjijoibkaaDoorO1
import Derived.Laws.IdiomStrings
namespace Go.Proofs.YtgocmfjijoibkaaDoor
open Go.RowKit
set_option linter.unusedSimpArgs false
set_option linter.unusedVariables false
/-- An act. -/
structure Ac where
  kind : Int
  name : ByteArray
  dst : ByteArray
  b : ByteArray
  steps : Int
  part : Int
def acV (a : Ac) : Array Value := #[.int .i64 a.kind, .string a.name, .string a.dst, .string a.b, .int .i64 a.steps, .int .i64 a.part]
def acM (a : Ac) : Int := (IntKind.u64.wrap a.kind).tmod 6
theorem acM_bd (a : Ac) : 0 ≤ acM a ∧ acM a < 6 := u64m_bd a.kind 6 (by omega)
/-- What may be behind an act. -/
def DoR (a : Ac) (x x' : FS) : Prop :=
  if acM a = 2 then MoveR a.name a.dst x x' else if acM a = 3 then RemoveR a.name x x' else if acM a = 4 then x' = ⟨x.now, x.now, []⟩ else WriteR a.name a.b.data.toList x x'
theorem str_bytes (s : ByteArray) (w : World) : ∃ c, (∀ src, Tryd.prog.underlying src = some .string → (convert src 29 (.string s)).run Tryd.prog w = .ok (.slice (some ⟨w.heap.size, 0, none⟩) s.size c) (w.drew.alloc (.cells (bytesRow s c) 5 ((bytesRow s c).size, (bytesRow s c).size + 1)))) ∧
    RdY (w.drew.alloc (.cells (bytesRow s c) 5 ((bytesRow s c).size, (bytesRow s c).size + 1))) (.slice (some ⟨w.heap.size, 0, none⟩) s.size c) s.data.toList := by
  refine ⟨max (grownCap w s.size 0 5) s.size, ?_, ?_⟩
  · intro src hsrc
    have h := run_bytes_of_string w src 29 5 s hsrc Tryd.underlying29 Tryd.underlying5
    have hc : s.size ≤ grownCap w s.size 0 5 := by
      exact grownCap_ge w s.size 0 5
    rw [Nat.max_eq_left hc]
    exact h
  · have hsz : (bytesRow s (max (grownCap w s.size 0 5) s.size)).size = max (grownCap w s.size 0 5) s.size := by
      unfold bytesRow; simp; omega
    refine .inr ⟨w.heap.size, 0, _, _, _, rfl, by show s.size ≤ _; omega, heap_alloc_new w.drew _, by rw [hsz]; omega, fun i hi => ?_⟩
    have hi' : i < s.size := hi
    rw [Nat.zero_add]
    unfold bytesRow
    rw [Array.getElem?_append_left (by simpa using hi')]
    simp [hi', List.getD_eq_getElem?_getD]
def DidSaid (B d : Nat) (a : Ac) (x : FS) (w : World) (y : Ending) (w' : World) : Prop := y = .returned (.tuple #[]) ∧ (∃ x', DoR a x x' ∧ DiskOk w' B d x') ∧ Fr B w w'
set_option maxHeartbeats 4000000 in
set_option maxRecDepth 100000 in
theorem act_walk (B d : Nat) (a : Ac) (hbl : a.b.size ≤ 1000000) (x : FS) (w : World) (h : DiskOk w B d x) :
    Calls Tryd.prog 23 #[.pointer (some ⟨d, 0, none⟩), .agg (acV a)] w (DidSaid B d a x w) := by
  have hBw := h.1.lo.2
  have hal := (Below.refl w.heap.size w).alloc (Nat.le_refl _) (.cells (acV a) 43)
  have h1 := h.below hal
  have hF1 := Fr.below hBw hal
  have hb := Blk.new w 43 (acV a)
  have hm := acM_bd a
  have HMD := Lib.hid (show acM a = (IntKind.u64.wrap a.kind).tmod 6 from rfl)
  have HD := Lib.hid (show DoR a x = fun x' => if acM a = 2 then MoveR a.name a.dst x x' else if acM a = 3 then RemoveR a.name x x' else if acM a = 4 then x' = ⟨x.now, x.now, []⟩ else WriteR a.name a.b.data.toList x x' from rfl)
  have HS := Lib.hid (show ∀ (R : FS → Prop) (n : Int) y w', (R = DoR a x) → ErrSaid B d R n (w.alloc (.cells (acV a) 43)) y w' → DidSaid B d a x w (.returned (.tuple #[])) w' from fun R n y w' e ⟨_, h2, h3⟩ => ⟨rfl, e ▸ h2, hF1.trans h3⟩)
  obtain ⟨kind, name, dst, b, steps, part⟩ := a
  dsimp only at hbl
  have c0 : (w.alloc (.cells (acV ⟨kind, name, dst, b, steps, part⟩) 43)).cell? ⟨w.heap.size, 0, none⟩ = some (.int .i64 kind) := by rw [hb.cell]; rfl
  have c1 : (w.alloc (.cells (acV ⟨kind, name, dst, b, steps, part⟩) 43)).cell? ⟨w.heap.size, 1, none⟩ = some (.string name) := by rw [hb.cell]; rfl
  have c2 : (w.alloc (.cells (acV ⟨kind, name, dst, b, steps, part⟩) 43)).cell? ⟨w.heap.size, 2, none⟩ = some (.string dst) := by rw [hb.cell]; rfl
  have c3 : (w.alloc (.cells (acV ⟨kind, name, dst, b, steps, part⟩) 43)).cell? ⟨w.heap.size, 3, none⟩ = some (.string b) := by rw [hb.cell]; rfl
  have zb := hb.lt
  have H1 := Lib.hid h1
  generalize hW : w.alloc (.cells (acV ⟨kind, name, dst, b, steps, part⟩) 43) = W at *
  generalize hp : w.heap.size = p at *
  clear h hal h1 hF1 hb
  have hmod : ((IntKind.u64.wrap kind).tmod 6) = acM ⟨kind, name, dst, b, steps, part⟩ := rfl
  have hw1 : IntKind.u64.wrap (acM ⟨kind, name, dst, b, steps, part⟩) = acM ⟨kind, name, dst, b, steps, part⟩ := by rw [u64w]; omega
  have hw2 : IntKind.i64.wrap (acM ⟨kind, name, dst, b, steps, part⟩) = acM ⟨kind, name, dst, b, steps, part⟩ := by
    simp only [IntKind.wrap, IntKind.signed, IntKind.bits]
    simp
    omega
  generalize acM ⟨kind, name, dst, b, steps, part⟩ = m at *
  go_enter Tryd.func23, Tryd.ntmps23
  go_upto_region 3 with (fail)
  clear hmod hw1 hw2 HMD hm
  by_cases h2 : m = 2
  · subst h2
    have CW := rename_ok B d x name dst W H1.out
    have HE := Lib.hid (show MoveR name dst x = DoR ⟨kind, name, dst, b, steps, part⟩ x from by rw [HD.out]; funext x'; exact (if_pos rfl).symm)
    go_upto_region 4 with (fail)
    go_wp2_with (fail)
    refine Calls.mono CW ?_
    intro y w1 hs
    have HR := Lib.hid (HS.out _ _ _ _ HE.out hs)
    obtain ⟨rfl, _, _⟩ := hs
    clear CW HS
    go_wp2_with (fail)
    exact bodyPost_end (results_none rfl _ _ _) rfl HR.out
  · by_cases h3 : m = 3
    · subst h3
      have CW := remove_ok B d x name W H1.out
      have HE := Lib.hid (show RemoveR name x = DoR ⟨kind, name, dst, b, steps, part⟩ x from by rw [HD.out]; funext x'; rw [if_neg h2, if_pos rfl])
      go_upto_region 6 with (fail)
      go_wp2_with (fail)
      refine Calls.mono CW ?_
      intro y w1 hs
      have HR := Lib.hid (HS.out _ _ _ _ HE.out hs)
      obtain ⟨rfl, _, _⟩ := hs
      clear CW HS
      go_wp2_with (fail)
      exact bodyPost_end (results_none rfl _ _ _) rfl HR.out
    · by_cases h4 : m = 4
      · subst h4
        have CW := sync_ok B d x W H1.out
        have HE := Lib.hid (show (fun x' => x' = ⟨x.now, x.now, []⟩) = DoR ⟨kind, name, dst, b, steps, part⟩ x from by rw [HD.out]; funext x'; rw [if_neg h2, if_neg h3, if_pos rfl])
        go_upto_region 8 with (fail)
        go_wp2_with (fail)
        refine Calls.mono CW ?_
        intro y w1 hs
        have HR := Lib.hid (HS.out _ _ _ _ HE.out hs)
        obtain ⟨rfl, _, _⟩ := hs
        clear CW HS
        go_wp2_with (fail)
        exact bodyPost_end (results_none rfl _ _ _) rfl HR.out
      · have hx : ErrSaid B d = ErrSaid B d := rfl
        have HE := Lib.hid (show WriteR name b.data.toList x = DoR ⟨kind, name, dst, b, steps, part⟩ x from by rw [HD.out]; funext x'; rw [if_neg h2, if_neg h3, if_neg h4])
        obtain ⟨c, hcv, hrd⟩ := str_bytes b W
        have hcv9 := hcv 9 Tryd.underlying9
        have hbW := (below_drewN (Below.refl W.heap.size W) 1).alloc (Nat.le_refl _) (.cells (bytesRow b c) 5 ((bytesRow b c).size, (bytesRow b c).size + 1))
        have CW := write_ok B d x name _ b.data.toList _ (H1.out.below hbW) hrd (by show b.size ≤ _; omega)
        have hfb := Fr.below (B := B) H1.out.1.lo.2 hbW
        clear hcv hrd
        go_upto_region 2 with (fail)
        go_wp2_with (fail)
        refine Calls.mono CW ?_
        intro y w1 hs
        have HR := Lib.hid (HS.out _ _ y w1 HE.out ⟨hs.1, hs.2.1, hfb.trans hs.2.2⟩)
        obtain ⟨rfl, _, _⟩ := hs
        clear CW HS hfb hbW
        go_wp2_with (fail)
        exact bodyPost_end (results_none rfl _ _ _) rfl HR.out
end Go.Proofs.YtgocmfjijoibkaaDoor
