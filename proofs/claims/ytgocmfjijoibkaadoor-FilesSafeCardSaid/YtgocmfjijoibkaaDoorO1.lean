/- A disk in order. -/
import Derived.Test.YtgocmfjijoibkaaDoorL2
namespace Go.Proofs.YtgocmfjijoibkaaDoor
open Go.RowKit
set_option linter.unusedSimpArgs false
set_option linter.unusedVariables false
/-- A disk's lists. -/
structure FS where
  now : List Fl
  sure : List Fl
  T : List Stp
def GoodF (F : List Fl) : Prop := ∀ f, f ∈ F → namedF f.1 = true ∧ f.2.length ≤ 65536
def GoodS (s : Stp) : Prop := namedF s.name.data.toList = true ∧ (s.wr = false → s.rm = false → namedF s.dst.data.toList = true) ∧ s.bs.length ≤ 65536
structure Okay (x : FS) : Prop where
  run : x.now = runF x.sure x.T
  pre : ∀ k, (runF x.sure (x.T.take k)).length ≤ 64
  gs : GoodF x.sure
  gt : ∀ s, s ∈ x.T → GoodS s
  mv : ∀ k s, x.T[k]? = some s → s.wr = false → (lookF (runF x.sure (x.T.take k)) s.name.data.toList).isSome = true
def DiskOk (w : World) (B d : Nat) (x : FS) : Prop := DiskAt w B d x.now x.sure x.T ∧ Okay x
theorem GoodF.without {F : List Fl} (h : GoodF F) (n : List UInt8) : GoodF (withoutF F n) := fun f hf => h f (List.mem_filter.1 hf).1
theorem GoodF.with {F : List Fl} (h : GoodF F) {f : Fl} (hf : namedF f.1 = true ∧ f.2.length ≤ 65536) : GoodF (withF F f) := fun g hg => by
  rcases mem_ins.1 hg with rfl | hg
  · exact hf
  · exact h.without _ g hg
theorem GoodF.look {F : List Fl} (h : GoodF F) {x bs : List UInt8} (e : lookF F x = some bs) : namedF x = true ∧ bs.length ≤ 65536 := h _ (look_mem e)
theorem GoodF.step {F : List Fl} (h : GoodF F) {s : Stp} (hs : GoodS s) : GoodF (doF F s) := by
  obtain ⟨h1, h2, h3⟩ := hs
  unfold doF
  split
  · exact h.with ⟨h1, h3⟩
  · split
    · exact h.without _
    · refine (h.without _).with ⟨h2 (by simpa using ‹¬ s.wr = true›) (by simpa using ‹¬ s.rm = true›), ?_⟩
      cases hl : lookF F s.name.data.toList with
      | none => simp
      | some bs => exact (h.look hl).2
theorem GoodF.run {F : List Fl} (h : GoodF F) {T : List Stp} (hT : ∀ s, s ∈ T → GoodS s) : GoodF (runF F T) := by
  unfold runF
  induction T generalizing F with
  | nil => exact h
  | cons s r ih => exact ih (h.step (hT s List.mem_cons_self)) fun q hq => hT q (List.mem_cons_of_mem _ hq)
theorem Okay.now {x : FS} (h : Okay x) : GoodF x.now := by rw [h.run]; exact h.gs.run h.gt
theorem Okay.add {x : FS} (h : Okay x) (s : Stp) (hs : GoodS s) (hl : (doF x.now s).length ≤ 64) (hm : s.wr = false → (lookF x.now s.name.data.toList).isSome = true) : Okay ⟨doF x.now s, x.sure, x.T ++ [s]⟩ := by
  refine ⟨?_, fun k => ?_, h.gs, fun q hq => ?_, fun k q hk hw => ?_⟩
  · show doF x.now s = runF x.sure (x.T ++ [s])
    rw [runF_snoc, ← h.run]
  · show (runF x.sure ((x.T ++ [s]).take k)).length ≤ 64
    rw [List.take_append]
    by_cases hk : k ≤ x.T.length
    · rw [show k - x.T.length = 0 from by omega, List.take_zero, List.append_nil]; exact h.pre k
    · rw [List.take_of_length_le (by omega), List.take_of_length_le (by simp; omega), runF_snoc, ← h.run]; exact hl
  · rcases List.mem_append.1 hq with hq | hq
    · exact h.gt q hq
    · cases List.mem_singleton.1 hq; exact hs
  · show (lookF (runF x.sure ((x.T ++ [s]).take k)) q.name.data.toList).isSome = true
    have hk : (x.T ++ [s])[k]? = some q := hk
    by_cases hlt : k < x.T.length
    · rw [List.getElem?_append_left hlt] at hk
      rw [List.take_append_of_le_length (by omega)]
      exact h.mv k q hk hw
    · rw [List.getElem?_append_right (by omega)] at hk
      have h0 : k - x.T.length = 0 := by
        have := (List.getElem?_eq_some_iff.1 hk).1
        simp at this; omega
      rw [h0] at hk
      cases hk
      rw [List.take_append_of_le_length (by omega), List.take_of_length_le (by omega), ← h.run]
      exact hm hw
theorem Okay.synced {l : List Fl} (h : GoodF l) (hl : l.length ≤ 64) : Okay ⟨l, l, []⟩ :=
  ⟨rfl, fun k => by show (runF l (List.take k [])).length ≤ 64; rw [List.take_nil]; exact hl, h, (fun s hs => (nomatch hs)), (fun k s hs => by simp at hs)⟩
theorem cut_len (F : List Fl) (hA : Asc F) (s : Stp) (p : Nat) : (doF F (cutS s p)).length = (doF F s).length := by
  unfold doF cutS
  dsimp only
  split
  · rw [with_len hA, with_len hA]
  · rfl
theorem Okay.crash {x : FS} (h : Okay x) (hA : Asc x.sure) (k p : Nat) : (crashF x.sure x.T k p).length ≤ 64 ∧ GoodF (crashF x.sure x.T k p) := by
  unfold crashF
  have hg : GoodF (runF x.sure (x.T.take k)) := h.gs.run fun s hs => h.gt s (List.mem_of_mem_take hs)
  split
  · rename_i s hs
    split
    · refine ⟨?_, ?_⟩
      · rw [cut_len _ (runF_asc _ hA _), ← runF_take _ _ _ _ hs]; exact h.pre _
      · obtain ⟨h1, h2, h3⟩ := h.gt s (List.mem_of_getElem? hs)
        exact hg.step ⟨h1, h2, by show (s.bs.take p).length ≤ 65536; rw [List.length_take]; omega⟩
    · exact ⟨h.pre k, hg⟩
  · exact ⟨h.pre k, hg⟩
/-- What may be behind a write, a rename, a file taken away. -/
def WriteR (name : ByteArray) (bs : List UInt8) (x x' : FS) : Prop :=
  ∃ v, x' = if writeN x.now x.T.length name.data.toList bs.length = 0 then ⟨doF x.now ⟨name, ByteArray.empty, v, bs, true, false⟩, x.sure, x.T ++ [⟨name, ByteArray.empty, v, bs, true, false⟩]⟩ else x
def MoveR (name dst : ByteArray) (x x' : FS) : Prop :=
  x' = if moveN x.now x.T.length name.data.toList dst.data.toList = 0 then ⟨doF x.now ⟨name, dst, .slice none 0 0, [], false, false⟩, x.sure, x.T ++ [⟨name, dst, .slice none 0 0, [], false, false⟩]⟩ else x
def RemoveR (name : ByteArray) (x x' : FS) : Prop :=
  x' = if removeN x.now x.T.length name.data.toList = 0 then ⟨doF x.now ⟨name, ByteArray.empty, .slice none 0 0, [], false, true⟩, x.sure, x.T ++ [⟨name, ByteArray.empty, .slice none 0 0, [], false, true⟩]⟩ else x
theorem writeN_zero {F : List Fl} {T : Nat} {s : List UInt8} {n : Nat} (h : writeN F T s n = 0) : namedF s = true ∧ n ≤ 65536 := by
  unfold writeN at h
  split at h
  · split at h
    · cases h
    · exact ⟨by assumption, by omega⟩
  · cases h
theorem moveN_zero {F : List Fl} {T : Nat} {s d : List UInt8} (h : moveN F T s d = 0) : namedF s = true ∧ namedF d = true ∧ (lookF F s).isSome = true := by
  unfold moveN at h
  split at h
  · split at h
    · obtain ⟨h1, h2⟩ := checkN_zero ‹checkN F s = 0›
      exact ⟨h1, by assumption, h2⟩
    · exact absurd h ‹_›
  · cases h
theorem removeN_zero {F : List Fl} {T : Nat} {s : List UInt8} (h : removeN F T s = 0) : namedF s = true ∧ (lookF F s).isSome = true := by
  unfold removeN at h
  split at h
  · exact checkN_zero ‹checkN F s = 0›
  · exact absurd h ‹_›
def ErrSaid (B d : Nat) (R : FS → Prop) (n : Int) (w : World) (y : Ending) (w' : World) : Prop := y = .returned (errI n) ∧ (∃ x', R x' ∧ DiskOk w' B d x') ∧ Fr B w w'
theorem write_ok (B d : Nat) (x : FS) (name : ByteArray) (v : Value) (bs : List UInt8) (w : World) (h : DiskOk w B d x) (hv : RdY w v bs) (hbl : bs.length ≤ 9223372036854775807) :
    Calls Tryd.prog 9 #[.pointer (some ⟨d, 0, none⟩), .string name, v] w (ErrSaid B d (WriteR name bs x) (writeN x.now x.T.length name.data.toList bs.length) w) := by
  refine Calls.mono (write_walk B d x.now x.sure x.T name v bs w h.1 hv hbl) ?_
  rintro y w' ⟨rfl, h2, h3⟩
  refine ⟨rfl, ?_, h3⟩
  by_cases hz : writeN x.now x.T.length name.data.toList bs.length = 0
  · rw [if_pos hz] at h2
    obtain ⟨v2, h2⟩ := h2
    obtain ⟨n1, n2⟩ := writeN_zero hz
    exact ⟨⟨doF x.now ⟨name, ByteArray.empty, v2, bs, true, false⟩, x.sure, x.T ++ [(⟨name, ByteArray.empty, v2, bs, true, false⟩ : Stp)]⟩, ⟨v2, (if_pos hz).symm⟩, h2, h.2.add ⟨name, ByteArray.empty, v2, bs, true, false⟩ ⟨n1, (fun e => (nomatch e)), n2⟩ h2.an.2 (fun e => (nomatch e))⟩
  · rw [if_neg hz] at h2
    exact ⟨x, ⟨v, (if_neg hz).symm⟩, h2, h.2⟩
theorem rename_ok (B d : Nat) (x : FS) (name dst : ByteArray) (w : World) (h : DiskOk w B d x) :
    Calls Tryd.prog 21 #[.pointer (some ⟨d, 0, none⟩), .string name, .string dst] w (ErrSaid B d (MoveR name dst x) (moveN x.now x.T.length name.data.toList dst.data.toList) w) := by
  refine Calls.mono (rename_walk B d x.now x.sure x.T name dst w h.1) ?_
  rintro y w' ⟨rfl, h2, h3⟩
  refine ⟨rfl, ?_, h3⟩
  by_cases hz : moveN x.now x.T.length name.data.toList dst.data.toList = 0
  · rw [if_pos hz] at h2
    obtain ⟨n1, n2, n3⟩ := moveN_zero hz
    exact ⟨_, (if_pos hz).symm, h2, h.2.add _ ⟨n1, fun _ _ => n2, by simp⟩ h2.an.2 (fun _ => n3)⟩
  · rw [if_neg hz] at h2
    exact ⟨x, (if_neg hz).symm, h2, h.2⟩
theorem remove_ok (B d : Nat) (x : FS) (name : ByteArray) (w : World) (h : DiskOk w B d x) :
    Calls Tryd.prog 12 #[.pointer (some ⟨d, 0, none⟩), .string name] w (ErrSaid B d (RemoveR name x) (removeN x.now x.T.length name.data.toList) w) := by
  refine Calls.mono (remove_walk B d x.now x.sure x.T name w h.1) ?_
  rintro y w' ⟨rfl, h2, h3⟩
  refine ⟨rfl, ?_, h3⟩
  by_cases hz : removeN x.now x.T.length name.data.toList = 0
  · rw [if_pos hz] at h2
    obtain ⟨n1, n3⟩ := removeN_zero hz
    exact ⟨_, (if_pos hz).symm, h2, h.2.add _ ⟨n1, (fun _ e => (nomatch e)), by simp⟩ h2.an.2 (fun _ => n3)⟩
  · rw [if_neg hz] at h2
    exact ⟨x, (if_neg hz).symm, h2, h.2⟩
theorem sync_ok (B d : Nat) (x : FS) (w : World) (h : DiskOk w B d x) :
    Calls Tryd.prog 13 #[.pointer (some ⟨d, 0, none⟩)] w (ErrSaid B d (fun x' => x' = ⟨x.now, x.now, []⟩) 0 w) := by
  refine Calls.mono (sync_walk B d x.now x.sure x.T w h.1) ?_
  rintro y w' ⟨rfl, h2, h3⟩
  exact ⟨rfl, ⟨_, rfl, h2, Okay.synced h.2.now h.1.an.2⟩, h3⟩
theorem crash_ok (B d : Nat) (x : FS) (st pt : Int) (s0 : -9223372036854775808 ≤ st) (s1 : st ≤ 9223372036854775807) (p0 : -9223372036854775808 ≤ pt) (p1 : pt ≤ 9223372036854775807) (w : World) (h : DiskOk w B d x) :
    Calls Tryd.prog 22 #[.pointer (some ⟨d, 0, none⟩), .int .i64 st, .int .i64 pt] w (ErrSaid B d (fun x' => x' = if crashBad x.T.length st pt then x else ⟨crashF x.sure x.T st.toNat pt.toNat, crashF x.sure x.T st.toNat pt.toNat, []⟩) (if crashBad x.T.length st pt then 1 else 0) w) := by
  have hc := h.2.crash h.1.as_.1 st.toNat pt.toNat
  refine Calls.mono (crash_walk B d x.now x.sure x.T st pt s0 s1 p0 p1 w h.1 hc.1) ?_
  rintro y w' ⟨h2, h3⟩
  by_cases hb : crashBad x.T.length st pt
  · rw [if_pos hb] at h2
    exact ⟨by rw [if_pos hb]; exact h2.1, ⟨x, (if_pos hb).symm, h2.2, h.2⟩, h3⟩
  · rw [if_neg hb] at h2
    exact ⟨by rw [if_neg hb]; exact h2.1, ⟨_, (if_neg hb).symm, h2.2, Okay.synced hc.2 hc.1⟩, h3⟩
theorem DiskOk.below {w w1 : World} {B d : Nat} {x : FS} (h : DiskOk w B d x) (hb : Below w.heap.size w w1) : DiskOk w1 B d x := ⟨h.1.below hb, h.2⟩
end Go.Proofs.YtgocmfjijoibkaaDoor
