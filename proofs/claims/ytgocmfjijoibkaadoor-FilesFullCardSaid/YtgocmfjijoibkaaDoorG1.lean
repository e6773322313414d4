/- The names of FilesFull, and what it does to a disk. -/
import Derived.Test.YtgocmfjijoibkaaDoorE1
import Derived.Test.YtgocmfjijoibkaaDoorA1
namespace Go.Proofs.YtgocmfjijoibkaaDoor
open Go.RowKit
set_option linter.unusedSimpArgs false
set_option linter.unusedVariables false
set_option linter.unusedVariables false
def abcS : ByteArray := ⟨#[97, 98, 99, 100, 101, 102, 103, 104]⟩
def chS (a : Nat) : ByteArray := ⟨#[UInt8.ofNat (97 + a)]⟩
theorem ch_cut (a : Nat) (h : a < 8) (W : World) : (Instr.slice 9 (.string ⟨#[97, 98, 99, 100, 101, 102, 103, 104]⟩) (some (.int .i64 (a : Int))) (some (.int .i64 ((a : Int) + 1))) none).run Tryd.prog W = .ok (.string (chS a)) W := by
  have hx : ∀ a : Fin 8, abcS.extract a.val (a.val + 1) = chS a.val := by decide
  have := run_slice_string W 9 abcS .i64 .i64 (a : Int) ((a : Int) + 1) Tryd.underlying9 (by omega) (by omega) (by show ((a : Int) + 1) ≤ 8; omega)
  rw [show ((a : Int) + 1).toNat = a + 1 from by omega, Int.toNat_natCast, hx ⟨a, h⟩] at this
  exact this
/-- The name of file number i. -/
def nmL (i : Nat) : List UInt8 := [102, UInt8.ofNat (97 + i / 8), UInt8.ofNat (97 + i % 8)]
def nmS (i : Nat) : ByteArray := ⟨(nmL i).toArray⟩
theorem nm_cat (i : Nat) : (⟨#[102]⟩ ++ chS (i / 8)) ++ chS (i % 8) = nmS i := by
  apply ByteArray.ext
  rw [ByteArray.data_append, ByteArray.data_append]
  rfl
def NameSaid (i : Nat) (w : World) (y : Ending) (w' : World) : Prop := y = .returned (.string (nmS i)) ∧ Below w.heap.size w w'
set_option maxHeartbeats 4000000 in
set_option maxRecDepth 100000 in
theorem name_walk (i : Nat) (hi : i < 64) (w : World) : Calls Tryd.prog 8 #[.int .i64 (i : Int)] w (NameSaid i w) := by
  have hq : (i : Int).tdiv 8 = ((i / 8 : Nat) : Int) := by rw [Int.tdiv_eq_ediv_of_nonneg (by omega)]; omega
  have hr : (i : Int).tmod 8 = ((i % 8 : Nat) : Int) := by rw [Int.tmod_eq_emod_of_nonneg (by omega)]; omega
  have ha : i / 8 < 8 := by omega
  have hb : i % 8 < 8 := by omega
  have HC := Lib.hid (nm_cat i)
  have ca := ch_cut (i / 8) ha
  have cb := ch_cut (i % 8) hb
  have sa : (chS (i / 8)).size = 1 := rfl
  have sb : (chS (i % 8)).size = 1 := rfl
  generalize i / 8 = a at *
  generalize i % 8 = b at *
  have a0 : (0 : Int) ≤ a := by omega
  have b0 : (0 : Int) ≤ b := by omega
  have a8 : (a : Int) < 8 := by omega
  have b8 : (b : Int) < 8 := by omega
  go_enter Tryd.func8, Tryd.ntmps8
  go_upto_region 1 with (fail)
  go_quiet (fail)
  go_wp2_with (fail)
  go_ret
  exact ⟨by rw [← HC.out]; rfl, below_drewN (Below.refl _ _) nq⟩
def moreS : ByteArray := ⟨#[109, 111, 114, 101]⟩
theorem nm_named : ∀ i : Fin 64, namedF (nmL i.val) = true := by decide +kernel
theorem nmS_named {k : Nat} (h : k < 64) : namedF (nmS k).data.toList = true := nm_named ⟨k, h⟩
theorem nm_inj {i j : Nat} (hi : i < 64) (hj : j < 64) (h : nmL i = nmL j) : i = j := by
  unfold nmL at h
  injection h with _ h
  injection h with h1 h
  injection h with h2 _
  have e1 := congrArg UInt8.toNat h1
  have e2 := congrArg UInt8.toNat h2
  simp only [UInt8.toNat_ofNat'] at e1 e2
  omega
theorem nm_more (i : Nat) : nmL i ≠ moreS.data.toList := fun h => by
  have := congrArg List.length h
  simp [nmL, moreS] at this
/-- n of the files with names, behind t steps. -/
def FullD (w : World) (B d n t : Nat) : Prop := ∃ x, DiskOk w B d x ∧ x.now.length = n ∧ (∀ y, (lookF x.now y).isSome = true ↔ ∃ j, j < n ∧ y = nmL j) ∧ x.T.length = t
def LessD (w : World) (B d : Nat) : Prop := ∃ x, DiskOk w B d x ∧ x.now.length = 63 ∧ (lookF x.now moreS.data.toList).isSome = false ∧ x.T.length = 1
theorem FullD.below {w w1 : World} {B d n t : Nat} (h : FullD w B d n t) (hb : Below w.heap.size w w1) : FullD w1 B d n t := by
  obtain ⟨x, h1, h2⟩ := h
  exact ⟨x, h1.below hb, h2⟩
theorem FullD.lo {w : World} {B d n t : Nat} (h : FullD w B d n t) : B ≤ w.heap.size := by
  obtain ⟨x, h1, _⟩ := h
  exact h1.1.lo.2
def FOk (B d : Nat) (P : World → Prop) (v : Value) (w : World) (y : Ending) (w' : World) : Prop := y = .returned v ∧ P w' ∧ Below B w w'
theorem full_new (B d n t : Nat) (v : Value) (bs : List UInt8) (w : World) (h : FullD w B d n t) (hn : n < 64) (ht : t < 4096) (hv : RdY w v bs) (hb : bs.length ≤ 65536) :
    Calls Tryd.prog 9 #[.pointer (some ⟨d, 0, none⟩), .string (nmS n), v] w (FOk B d (fun w' => FullD w' B d (n + 1) (t + 1)) .nilIface w) := by
  obtain ⟨x, hx, h1, h2, h3⟩ := h
  have hno : (lookF x.now (nmL n)).isSome = false := by
    rw [Bool.eq_false_iff]
    intro hs
    obtain ⟨j, hj, e⟩ := (h2 _).1 hs
    have := nm_inj hn (by omega) e
    omega
  have hz : writeN x.now x.T.length (nmS n).data.toList bs.length = 0 := by
    unfold writeN
    rw [if_pos (nmS_named hn), if_neg (by omega), if_neg (by rw [h1]; omega), if_neg (by omega)]
  refine Calls.mono (write_ok B d x (nmS n) v bs w hx hv (by omega)) ?_
  rintro y w' ⟨rfl, ⟨x', ⟨v2, hx'⟩, hd⟩, hF⟩
  rw [if_pos hz] at hx'
  refine ⟨by rw [hz]; rfl, ⟨x', hd, ?_, ?_, ?_⟩, hF.1⟩
  · rw [hx']
    show (withF x.now (nmL n, bs)).length = _
    rw [with_len hx.1.an.1, hno, h1]; rfl
  · intro y
    rw [hx']
    show (lookF (withF x.now (nmL n, bs)) y).isSome = true ↔ _
    rw [lookF_with]
    by_cases he : y = nmL n
    · rw [if_pos he]; simp only [Option.isSome_some, true_iff]; exact ⟨n, by omega, he⟩
    · rw [if_neg he, h2]
      constructor
      · rintro ⟨j, hj, e⟩; exact ⟨j, by omega, e⟩
      · rintro ⟨j, hj, e⟩
        refine ⟨j, ?_, e⟩
        rcases Nat.lt_or_ge j n with h | h
        · exact h
        · obtain rfl : j = n := by omega
          exact absurd e he
  · rw [hx']; simp [h3]
theorem full_old (B d k t : Nat) (v : Value) (bs : List UInt8) (w : World) (h : FullD w B d 64 t) (hk : k < 64) (ht : t < 4096) (hv : RdY w v bs) (hb : bs.length ≤ 65536) :
    Calls Tryd.prog 9 #[.pointer (some ⟨d, 0, none⟩), .string (nmS k), v] w (FOk B d (fun w' => FullD w' B d 64 (t + 1)) .nilIface w) := by
  obtain ⟨x, hx, h1, h2, h3⟩ := h
  have hso : (lookF x.now (nmL k)).isSome = true := (h2 _).2 ⟨k, hk, rfl⟩
  have hz : writeN x.now x.T.length (nmS k).data.toList bs.length = 0 := by
    unfold writeN
    rw [if_pos (nmS_named hk), if_neg (by omega), if_neg (fun hc => by rw [show (nmS k).data.toList = nmL k from rfl, Option.isNone_iff_eq_none] at hc; rw [hc.1] at hso; cases hso), if_neg (by omega)]
  refine Calls.mono (write_ok B d x (nmS k) v bs w hx hv (by omega)) ?_
  rintro y w' ⟨rfl, ⟨x', ⟨v2, hx'⟩, hd⟩, hF⟩
  rw [if_pos hz] at hx'
  refine ⟨by rw [hz]; rfl, ⟨x', hd, ?_, ?_, ?_⟩, hF.1⟩
  · rw [hx']
    show (withF x.now (nmL k, bs)).length = _
    rw [with_len hx.1.an.1, hso, h1]; rfl
  · intro y
    rw [hx']
    show (lookF (withF x.now (nmL k, bs)) y).isSome = true ↔ _
    rw [lookF_with]
    by_cases he : y = nmL k
    · rw [if_pos he]; simp only [Option.isSome_some, true_iff]; exact ⟨k, hk, he⟩
    · rw [if_neg he, h2]
  · rw [hx']; simp [h3]
theorem full_err (B d n t : Nat) (name : ByteArray) (w : World) (h : FullD w B d n t) (hz : ∀ x : FS, x.now.length = n → (∀ y, (lookF x.now y).isSome = true ↔ ∃ j, j < n ∧ y = nmL j) → x.T.length = t → writeN x.now x.T.length name.data.toList 0 = 10) :
    Calls Tryd.prog 9 #[.pointer (some ⟨d, 0, none⟩), .string name, .slice none 0 0] w (FOk B d (fun w' => FullD w' B d n t) (errI 10) w) := by
  obtain ⟨x, hx, h1, h2, h3⟩ := h
  have hz := hz x h1 h2 h3
  refine Calls.mono (write_ok B d x name _ [] w hx (RdY.nil _) (by simp)) ?_
  rintro y w' ⟨rfl, ⟨x', ⟨v2, hx'⟩, hd⟩, hF⟩
  rw [show ([] : List UInt8).length = 0 from rfl] at hx' ⊢
  rw [if_neg (by rw [hz]; decide)] at hx'
  rw [hz]
  subst hx'
  exact ⟨rfl, ⟨x', hd, h1, h2, h3⟩, hF.1⟩
theorem full_no (B d t : Nat) (w : World) (h : FullD w B d 64 t) : Calls Tryd.prog 9 #[.pointer (some ⟨d, 0, none⟩), .string ⟨#[109, 111, 114, 101]⟩, .slice none 0 0] w (FOk B d (fun w' => FullD w' B d 64 t) (errI 10) w) :=
  full_err B d 64 t moreS w h fun x h1 h2 h3 => by
    have hno : lookF x.now moreS.data.toList = none := by
      cases hl : lookF x.now moreS.data.toList with
      | none => rfl
      | some b => obtain ⟨j, _, e⟩ := (h2 moreS.data.toList).1 (by rw [hl]; rfl); exact absurd e.symm (nm_more j)
    unfold writeN
    rw [if_pos (by decide), if_neg (by omega), if_pos ⟨by rw [hno]; rfl, by omega⟩]
theorem full_top (B d k : Nat) (hk : k < 64) (w : World) (h : FullD w B d 64 4096) : Calls Tryd.prog 9 #[.pointer (some ⟨d, 0, none⟩), .string (nmS k), .slice none 0 0] w (FOk B d (fun w' => FullD w' B d 64 4096) (errI 10) w) :=
  full_err B d 64 4096 (nmS k) w h fun x h1 h2 h3 => by
    have hso : (lookF x.now (nmL k)).isSome = true := (h2 _).2 ⟨k, hk, rfl⟩
    unfold writeN
    rw [if_pos (nmS_named hk), if_neg (by omega), if_neg (fun hc => by rw [show (nmS k).data.toList = nmL k from rfl, Option.isNone_iff_eq_none] at hc; rw [hc.1] at hso; cases hso), if_pos (by omega)]
theorem full_rm (B d k : Nat) (hk : k < 64) (w : World) (h : FullD w B d 64 4096) : Calls Tryd.prog 12 #[.pointer (some ⟨d, 0, none⟩), .string (nmS k)] w (FOk B d (fun w' => FullD w' B d 64 4096) (errI 10) w) := by
  obtain ⟨x, hx, h1, h2, h3⟩ := h
  have hso : (lookF x.now (nmL k)).isSome = true := (h2 _).2 ⟨k, hk, rfl⟩
  have hz : removeN x.now x.T.length (nmS k).data.toList = 10 := by
    unfold removeN
    rw [if_pos (by unfold checkN; rw [if_pos (nmS_named hk), if_pos (show (lookF x.now (nmS k).data.toList).isSome = true from hso)]), if_pos (by omega)]
  refine Calls.mono (remove_ok B d x (nmS k) w hx) ?_
  rintro y w' ⟨rfl, ⟨x', hx', hd⟩, hF⟩
  unfold RemoveR at hx'
  rw [if_neg (by rw [hz]; decide)] at hx'
  rw [hz]
  subst hx'
  exact ⟨rfl, ⟨x', hd, h1, h2, h3⟩, hF.1⟩
theorem full_names (B d t : Nat) (w : World) (h : FullD w B d 64 t) : Calls Tryd.prog 11 #[.pointer (some ⟨d, 0, none⟩)] w (fun y w' => (∃ A c, y = .returned (.slice A 64 c)) ∧ Below w.heap.size w w') := by
  obtain ⟨x, hx, h1, h2, h3⟩ := h
  refine Calls.mono (names_walk B d x.now x.sure x.T w hx.1) ?_
  rintro y w' ⟨v, B0, h4, _, h5, _, h6⟩
  obtain ⟨A, c, rfl⟩ := row_form h5
  rw [h1] at h4
  exact ⟨⟨A, c, h4⟩, h6⟩
theorem full_sync (B d t : Nat) (w : World) (h : FullD w B d 64 t) : Calls Tryd.prog 13 #[.pointer (some ⟨d, 0, none⟩)] w (FOk B d (fun w' => FullD w' B d 64 0) .nilIface w) := by
  obtain ⟨x, hx, h1, h2, h3⟩ := h
  refine Calls.mono (sync_ok B d x w hx) ?_
  rintro y w' ⟨rfl, ⟨x', rfl, hd⟩, hF⟩
  exact ⟨rfl, ⟨_, hd, h1, h2, rfl⟩, hF.1⟩
theorem full_rm2 (B d k : Nat) (hk : k < 64) (w : World) (h : FullD w B d 64 0) : Calls Tryd.prog 12 #[.pointer (some ⟨d, 0, none⟩), .string (nmS k)] w (FOk B d (fun w' => LessD w' B d) .nilIface w) := by
  obtain ⟨x, hx, h1, h2, h3⟩ := h
  have hso : (lookF x.now (nmL k)).isSome = true := (h2 _).2 ⟨k, hk, rfl⟩
  have hz : removeN x.now x.T.length (nmS k).data.toList = 0 := by
    unfold removeN
    rw [if_pos (by unfold checkN; rw [if_pos (nmS_named hk), if_pos (show (lookF x.now (nmS k).data.toList).isSome = true from hso)]), if_neg (by omega)]
  refine Calls.mono (remove_ok B d x (nmS k) w hx) ?_
  rintro y w' ⟨rfl, ⟨x', hx', hd⟩, hF⟩
  unfold RemoveR at hx'
  rw [if_pos hz] at hx'
  rw [hz]
  refine ⟨rfl, ⟨x', hd, ?_, ?_, ?_⟩, hF.1⟩
  · rw [hx']
    show (withoutF x.now (nmL k)).length = 63
    have := without_len hx.1.an.1 (nmL k)
    rw [hso, h1] at this
    simpa using this
  · rw [hx']
    show (lookF (withoutF x.now (nmL k)) moreS.data.toList).isSome = false
    rw [lookF_without, if_neg (Ne.symm (nm_more k)), Bool.eq_false_iff]
    intro hs
    obtain ⟨j, _, e⟩ := (h2 moreS.data.toList).1 hs
    exact nm_more j e.symm
  · rw [hx']; simp [h3]
theorem full_more (B d : Nat) (w : World) (h : LessD w B d) : Calls Tryd.prog 9 #[.pointer (some ⟨d, 0, none⟩), .string ⟨#[109, 111, 114, 101]⟩, .slice none 0 0] w (FOk B d (fun w' => B ≤ w'.heap.size) .nilIface w) := by
  obtain ⟨x, hx, h1, h2, h3⟩ := h
  have hz : writeN x.now x.T.length moreS.data.toList 0 = 0 := by
    unfold writeN
    rw [if_pos (by decide), if_neg (by omega), if_neg (by omega), if_neg (by omega)]
  refine Calls.mono (write_ok B d x moreS _ [] w hx (RdY.nil _) (by simp)) ?_
  rintro y w' ⟨rfl, ⟨x', _, hd⟩, hF⟩
  rw [show ([] : List UInt8).length = 0 from rfl, hz]
  exact ⟨rfl, hd.1.lo.2, hF.1⟩
end Go.Proofs.YtgocmfjijoibkaaDoor
