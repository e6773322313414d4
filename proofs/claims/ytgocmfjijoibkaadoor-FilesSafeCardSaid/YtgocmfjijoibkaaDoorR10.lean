/- The law's try. -/
import Derived.Test.YtgocmfjijoibkaaDoorR9
namespace Go.Proofs.YtgocmfjijoibkaaDoor
open Go.RowKit
set_option linter.unusedSimpArgs false
set_option linter.unusedVariables false
set_option linter.unusedVariables false
open Go.Shelf
theorem blk_keptY {w w' : World} {b : Nat} {t : TypeId} {cs : Array Value} (h : Blk w b t cs) (k : KeptY w w') (h1 : t ≠ 62) (h2 : t ≠ 68) : Blk w' b t cs := k.2 b cs t _ h1 h2 h
theorem RdD.same {w : World} {v : Value} {T T' : List Stp} (h : RdD w v T) (e : T.map sdC = T'.map sdC) : RdD w v T' := by
  have hl : T.length = T'.length := by have := congrArg List.length e; simpa using this
  rcases h with ⟨A, cap, e1, rfl, hA⟩ | ⟨g, cap, cs, fr, e1, h1, h2, h3⟩
  · exact .inl ⟨A, cap, e1, List.eq_nil_of_length_eq_zero hl.symm, hA⟩
  · refine .inr ⟨g, cap, cs, fr, by rw [← hl]; exact e1, by omega, h2, fun i s hs j hj => ?_⟩
    have hi := (List.getElem?_eq_some_iff.1 hs).1
    obtain ⟨s', hs'⟩ : ∃ s', T[i]? = some s' := ⟨_, List.getElem?_eq_getElem (by omega)⟩
    have ee : (T.map sdC)[i]? = (T'.map sdC)[i]? := by rw [e]
    rw [List.getElem?_map, List.getElem?_map, hs, hs'] at ee
    have ee : sdC s' = sdC s := Option.some.inj ee
    rw [← ee]; exact h3 i s' hs' j hj
theorem Doc.sv {w : World} {v : Value} {x : FS} {n t b : List UInt8} {sv sv2 : Value} {wr rm : Bool} (h : Doc w v (TryX x n t b sv wr rm)) : Doc w v (TryX x n t b sv2 wr rm) := by
  unfold TryX at h ⊢
  split
  · rw [if_pos (by assumption)] at h
    obtain ⟨v1, v2, v3, e, h1, h2, h3⟩ := h
    exact ⟨v1, v2, v3, e, h1, h2, h3.same (by simp [TryS, sdC, kindS])⟩
  · rw [if_neg (by assumption)] at h; exact h
theorem try_move (x : FS) (n t : List UInt8) : tryN x n t [] false false = moveN x.now x.T.length n t := by
  unfold tryN moveN checkN
  cases namedF n <;> cases namedF t <;> cases lookF x.now n <;> simp
theorem try_remove (x : FS) (n : List UInt8) : tryN x n [] [] false true = removeN x.now x.T.length n := by
  unfold tryN removeN checkN
  cases namedF n <;> cases lookF x.now n <;> simp
theorem try_write (x : FS) (n b : List UInt8) : tryN x n [] b true false = writeN x.now x.T.length n b.length := by
  unfold tryN writeN
  cases namedF n <;> simp
theorem crash_code (x : FS) (st pt : Int) : crashN x st pt = if crashBad x.T.length st pt then 1 else 0 := rfl
/-- Both hold the same. -/
def Both (B d : Nat) (w : World) (v : Value) (x : FS) : Prop := Doc w v x ∧ DiskOk w B d x
def TryL (B d : Nat) (w : World) (y : Ending) (w' : World) : Prop := ∃ v x, y = .returned (.tuple #[v, .bool true]) ∧ Both B d w' v x ∧ Fr B w w'
def S4 (p p8 : Nat) (kind : Int) (name dst b : ByteArray) (st pt : Int) (a1 a2 a3 : Value) (w : World) : Prop := Blk w (p + 1) 43 #[.int .i64 kind, .string name, .string dst, .string b, .int .i64 st, .int .i64 pt] ∧ Blk w p8 41 #[a1, a2, a3]
theorem S4.kept {p p8 : Nat} {kind : Int} {name dst b : ByteArray} {st pt : Int} {a1 a2 a3 : Value} {w w' : World} (h : S4 p p8 kind name dst b st pt a1 a2 a3 w) (k : KeptY w w') : S4 p p8 kind name dst b st pt a1 a2 a3 w' := ⟨blk_keptY h.1 k (by decide) (by decide), blk_keptY h.2 k (by decide) (by decide)⟩
theorem S4.set {p p8 : Nat} {kind : Int} {name dst b : ByteArray} {st pt : Int} {a1 a2 a3 : Value} {w : World} (h : S4 p p8 kind name dst b st pt a1 a2 a3 w) (h8 : p8 ≠ p + 2) (j : Nat) (v : Value) : S4 p p8 kind name dst b st pt a1 a2 a3 (w.setCell ⟨p + 2, j, none⟩ v) := ⟨blk_far h.1 j v (by omega), blk_far h.2 j v h8⟩
theorem heap_far {w : World} {p : Nat} (j : Nat) (v : Value) {k : Nat} (hk : k ≠ p) : (w.setCell ⟨p, j, none⟩ v).heap[k]? = w.heap[k]? := Below.heap_setCell w _ _ k hk
theorem RdY.far {w : World} {v : Value} {bs : List UInt8} (h : RdY w v bs) {p : Nat} {cs : Array Value} (hp : Blk w p 41 cs) (j : Nat) (u : Value) : RdY (w.setCell ⟨p, j, none⟩ u) v bs := by
  rcases h with h | ⟨g, o, cap, c, fr, e, h1, h2, h3, h4⟩
  · exact .inl h
  · refine .inr ⟨g, o, cap, c, fr, e, h1, (heap_far j u (fun k => ?_)).trans h2, h3, h4⟩
    have hx : w.heap[p]? = _ := hp
    rw [k, hx] at h2; cases h2
theorem MapF.far {w : World} {b : Nat} {F : List Fl} (h : MapF w b F) {p : Nat} {cs : Array Value} (hp : Blk w p 41 cs) (j : Nat) (u : Value) : MapF (w.setCell ⟨p, j, none⟩ u) b F := by
  obtain ⟨es, clock, hb⟩ := h.obj
  have hbp : b ≠ p := fun e => by
    have hx : w.heap[p]? = _ := hp
    rw [e, hx] at hb; cases hb
  obtain ⟨D, ⟨es, clock, h0, Ft, hs, hD⟩, ht, hz, hx⟩ := h
  refine ⟨D, ⟨es, clock, (heap_far j u hbp).trans h0, Ft, hs, hD⟩, ht, hz, fun x => ⟨(hx x).1, fun bs e => ?_⟩⟩
  obtain ⟨v, h1, h2⟩ := (hx x).2 bs e
  exact ⟨v, h1, h2.far hp j u⟩
theorem DiskOk.set41 {w : World} {B d : Nat} {x : FS} {p : Nat} {cs : Array Value} (h : DiskOk w B d x) (hp : Blk w p 41 cs) (j : Nat) (v : Value) : DiskOk (w.setCell ⟨p, j, none⟩ v) B d x := by
  obtain ⟨⟨h1, ⟨rn, rs, sv, hd, hmn, hms, hne, hBn, hBs, how⟩, h3, h4, h5, h6⟩, ho⟩ := h
  have hdp : d ≠ p := fun e => by
    have hx : w.heap[p]? = _ := hp
    have hy : w.heap[d]? = _ := hd
    rw [e, hx] at hy; cases hy
  refine ⟨⟨⟨h1.1, by simpa using h1.2⟩, ⟨rn, rs, sv, blk_far hd j v hdp, hmn.far hp j v, hms.far hp j v, hne, hBn, hBs, ?_⟩, h3, h4, h5, fun s hs => ⟨(h6 s hs).1.far hp j v, (h6 s hs).2⟩⟩, ho⟩
  refine row_kept (w := w) (row := some p) how ⟨rfl, rfl, rfl, by simp, fun k hk h => heap_far j v (fun e => h (by rw [e]))⟩ (fun g hg e => ?_)
  cases e
  exact own_ne how hp (fun cs h => by cases h) hg
theorem both_end {w : World} {B d : Nat} {x : FS} {p : Nat} {a b c A1 A2 A3 : Value} (hd : DiskOk w B d x) (hv : Doc w (.agg #[A1, A2, A3]) x) (hp : Blk w p 41 #[a, b, c]) : Both B d (((w.setCell ⟨p, 0, none⟩ A1).setCell ⟨p, 1, none⟩ A2).setCell ⟨p, 2, none⟩ A3) (.agg #[A1, A2, A3]) x := by
  have k1 := hp.put 0 A1 rfl
  have k2 := k1.put 1 A2 rfl
  exact ⟨hv.keptD ((KeptD.set hp 0 A1).trans ((KeptD.set k1 1 A2).trans (KeptD.set k2 2 A3))), ((hd.set41 hp 0 A1).set41 k1 1 A2).set41 k2 2 A3⟩
theorem fr_set3 {B p : Nat} {w w1 : World} {a b c : Value} (h : Fr B w w1) (hp : B ≤ p) (hw : w.heap.size ≤ p) : Fr B w (((w1.setCell ⟨p, 0, none⟩ a).setCell ⟨p, 1, none⟩ b).setCell ⟨p, 2, none⟩ c) :=
  ⟨below_set3 h.1 hp, ⟨Nat.le_trans h.2.1 (by simp), fun g cs t fr h1 h2 e => by
    have hg := (Array.getElem?_eq_some_iff.1 e).1
    rw [heap_far _ _ (by show g ≠ p; omega), heap_far _ _ (by show g ≠ p; omega), heap_far _ _ (by show g ≠ p; omega)]
    exact h.2.2 g cs t fr h1 h2 e⟩⟩
def Alike (x x' : FS) : Prop := ∀ w v, Doc w v x → Doc w v x'
theorem ErrSaid.turn {B d : Nat} {R R' : FS → Prop} {n n' : Int} {w w' : World} {y : Ending} (h : ErrSaid B d R n w y w') (hn : n = n') (hR : ∀ x, R x → R' x) : ErrSaid B d R' n' w y w' := by
  subst hn
  obtain ⟨h1, ⟨x, hx, hd⟩, h3⟩ := h
  exact ⟨h1, ⟨x, hR x hx, hd⟩, h3⟩
theorem move_both (B d : Nat) (x : FS) (name dst : ByteArray) (w : World) (h : DiskOk w B d x) : Calls Tryd.prog 21 #[.pointer (some ⟨d, 0, none⟩), .string name, .string dst] w (ErrSaid B d (Alike (TryX x name.data.toList dst.data.toList [] (.slice none 0 0) false false)) (tryN x name.data.toList dst.data.toList [] false false) w) :=
  Calls.mono (rename_ok B d x name dst w h) fun y w' hs => hs.turn (try_move x _ _).symm fun x' hx' w v hd => by
    unfold MoveR at hx'
    unfold TryX at hd
    rw [try_move] at hd
    rw [hx']; exact hd
theorem remove_both (B d : Nat) (x : FS) (name : ByteArray) (w : World) (h : DiskOk w B d x) : Calls Tryd.prog 12 #[.pointer (some ⟨d, 0, none⟩), .string name] w (ErrSaid B d (Alike (TryX x name.data.toList [] [] (.slice none 0 0) false true)) (tryN x name.data.toList [] [] false true) w) :=
  Calls.mono (remove_ok B d x name w h) fun y w' hs => hs.turn (try_remove x _).symm fun x' hx' w v hd => by
    unfold RemoveR at hx'
    unfold TryX at hd
    rw [try_remove] at hd
    rw [hx']; exact hd
theorem crash_both (B d : Nat) (x : FS) (st pt : Int) (s0 : -9223372036854775808 ≤ st) (s1 : st ≤ 9223372036854775807) (p0 : -9223372036854775808 ≤ pt) (p1 : pt ≤ 9223372036854775807) (w : World) (h : DiskOk w B d x) : Calls Tryd.prog 22 #[.pointer (some ⟨d, 0, none⟩), .int .i64 st, .int .i64 pt] w (ErrSaid B d (Alike (CrashR x st pt)) (crashN x st pt) w) :=
  Calls.mono (crash_ok B d x st pt s0 s1 p0 p1 w h) fun y w' hs => hs.turn (crash_code x st pt).symm fun x' hx' w v hd => by
    unfold CrashR at hd
    by_cases hb : crashBad x.T.length st pt
    · rw [if_pos hb] at hx'; rw [if_neg (by rw [crash_code, if_pos hb]; decide)] at hd; rw [hx']; exact hd
    · rw [if_neg hb] at hx'; rw [if_pos (by rw [crash_code, if_neg hb])] at hd; rw [hx']; exact hd
theorem write_both (B d : Nat) (x : FS) (name : ByteArray) (bs : List UInt8) (v : Value) (hl : bs.length ≤ 9223372036854775807) (w : World) (h : DiskOk w B d x) (hv : RdY w v bs) : Calls Tryd.prog 9 #[.pointer (some ⟨d, 0, none⟩), .string name, v] w (ErrSaid B d (Alike (TryX x name.data.toList [] bs (.slice none 0 0) true false)) (tryN x name.data.toList [] bs true false) w) :=
  Calls.mono (write_ok B d x name v bs w h hv hl) fun y w' hs => hs.turn (try_write x _ _).symm fun x' hx' w v hd => by
    obtain ⟨v2, hx'⟩ := hx'
    have hd := Doc.sv (sv2 := v2) hd
    unfold TryX at hd
    rw [try_write] at hd
    rw [hx']; exact hd
set_option maxHeartbeats 16000000 in
set_option maxRecDepth 100000 in
theorem tryl_walk (B d : Nat) (a : Ac) (v : Value) (x : FS) (w : World) (hB0 : 0 < B) (hg : ErrType w) (hb : Both B d w v x) (hn63 : a.name.size ≤ 9223372036854775807) (hd63 : a.dst.size ≤ 9223372036854775807) (hb63 : a.b.size ≤ 9223372036854775807)
    (s0 : -9223372036854775808 ≤ a.steps) (s1 : a.steps ≤ 9223372036854775807) (p0 : -9223372036854775808 ≤ a.part) (p1 : a.part ≤ 9223372036854775807) :
    Calls Tryd.prog 15 #[.pointer (some ⟨d, 0, none⟩), v, .agg (acV a)] w (TryL B d w) := by
  obtain ⟨⟨v1, v2, v3, rfl, h1, h2, h3⟩, hd⟩ := hb
  obtain ⟨A1, k1, rfl⟩ := h1.form
  obtain ⟨A2, k2, rfl⟩ := h2.form
  obtain ⟨A3, k3, rfl⟩ := h3.form
  have hmd := acM_bd a
  have HMD := Lib.hid (show acM a = (IntKind.u64.wrap a.kind).tmod 6 from rfl)
  have hF64 := hd.1.an.2
  have hT := hd.1.st.1
  have HBw := Lib.hid hd.1.lo.2
  obtain ⟨kind, name, dst, b, st, pt⟩ := a
  dsimp only at hn63 hd63 hb63 s0 s1 p0 p1
  change Calls Tryd.prog 15 #[.pointer (some ⟨d, 0, none⟩), .agg #[.slice A1 x.now.length k1, .slice A2 x.sure.length k2, .slice A3 x.T.length k3], .agg #[.int .i64 kind, .string name, .string dst, .string b, .int .i64 st, .int .i64 pt]] w _
  have b1 := (Below.refl w.heap.size w).alloc (Nat.le_refl _) (.cells #[.slice A1 x.now.length k1, .slice A2 x.sure.length k2, .slice A3 x.T.length k3] 41)
  have b2 := b1.alloc b1.size (.cells #[.int .i64 kind, .string name, .string dst, .string b, .int .i64 st, .int .i64 pt] 43)
  have b3 := b2.alloc b2.size (.cells #[.slice none 0 0, .slice none 0 0, .slice none 0 0] 41)
  have z1 := (w.size_alloc (.cells #[.slice A1 x.now.length k1, .slice A2 x.sure.length k2, .slice A3 x.T.length k3] 41))
  have z2 := ((w.alloc (.cells #[.slice A1 x.now.length k1, .slice A2 x.sure.length k2, .slice A3 x.T.length k3] 41)).size_alloc (.cells #[.int .i64 kind, .string name, .string dst, .string b, .int .i64 st, .int .i64 pt] 43))
  have kD := ((Blk.new w 41 #[.slice A1 x.now.length k1, .slice A2 x.sure.length k2, .slice A3 x.T.length k3]).alloc (.cells #[.int .i64 kind, .string name, .string dst, .string b, .int .i64 st, .int .i64 pt] 43)).alloc (.cells #[.slice none 0 0, .slice none 0 0, .slice none 0 0] 41)
  have kA := (Blk.new (w.alloc (.cells #[.slice A1 x.now.length k1, .slice A2 x.sure.length k2, .slice A3 x.T.length k3] 41)) 43 #[.int .i64 kind, .string name, .string dst, .string b, .int .i64 st, .int .i64 pt]).alloc (.cells #[.slice none 0 0, .slice none 0 0, .slice none 0 0] 41)
  have kZ := Blk.new ((w.alloc (.cells #[.slice A1 x.now.length k1, .slice A2 x.sure.length k2, .slice A3 x.T.length k3] 41)).alloc (.cells #[.int .i64 kind, .string name, .string dst, .string b, .int .i64 st, .int .i64 pt] 43)) 41 #[.slice none 0 0, .slice none 0 0, .slice none 0 0]
  rw [z1] at kA
  rw [z2, z1] at kZ
  have HBZ := Lib.hid b3
  have k0 := KeptY.below b3
  have HKD := Lib.hid kD
  have HKA := Lib.hid kA
  have HKZ := Lib.hid kZ
  have HDV := Lib.hid (show Doc (((w.alloc (.cells #[.slice A1 x.now.length k1, .slice A2 x.sure.length k2, .slice A3 x.T.length k3] 41)).alloc (.cells #[.int .i64 kind, .string name, .string dst, .string b, .int .i64 st, .int .i64 pt] 43)).alloc (.cells #[.slice none 0 0, .slice none 0 0, .slice none 0 0] 41)) (.agg #[.slice A1 x.now.length k1, .slice A2 x.sure.length k2, .slice A3 x.T.length k3]) x from ⟨_, _, _, rfl, h1.kept k0, h2.kept k0, h3.kept k0⟩)
  have HD := Lib.hid (hd.below b3)
  have HG := Lib.hid (hg.below b3)
  clear h1 h2 h3 hd hg b1 b2 b3 z1 z2 k0 kD kA kZ
  have hmod : ((IntKind.u64.wrap kind).tmod 6) = acM ⟨kind, name, dst, b, st, pt⟩ := rfl
  have hmw : IntKind.i64.wrap (acM ⟨kind, name, dst, b, st, pt⟩) = acM ⟨kind, name, dst, b, st, pt⟩ := by rw [IntKind.wrap_i64]; omega
  generalize acM ⟨kind, name, dst, b, st, pt⟩ = m at *
  clear HMD
  go_enter Tryd.func15, Tryd.ntmps15
  go_upto_region 1 with (fail)
  generalize ((w.alloc (.cells #[.slice A1 x.now.length k1, .slice A2 x.sure.length k2, .slice A3 x.T.length k3] 41)).alloc (.cells #[.int .i64 kind, .string name, .string dst, .string b, .int .i64 st, .int .i64 pt] 43)).alloc (.cells #[.slice none 0 0, .slice none 0 0, .slice none 0 0] 41) = w1 at *
  generalize hp : w.heap.size = p at *
  have HP := Lib.hid hp
  clear hp
  have d0 : w1.cell? ⟨p, 0, none⟩ = some (.slice A1 x.now.length k1) := by rw [HKD.out.cell]; rfl
  have d1 : w1.cell? ⟨p, 1, none⟩ = some (.slice A2 x.sure.length k2) := by rw [HKD.out.cell]; rfl
  have d2 : w1.cell? ⟨p, 2, none⟩ = some (.slice A3 x.T.length k3) := by rw [HKD.out.cell]; rfl
  have a0 : w1.cell? ⟨p + 1, 0, none⟩ = some (.int .i64 kind) := by rw [HKA.out.cell]; rfl
  have a1 : w1.cell? ⟨p + 1, 1, none⟩ = some (.string name) := by rw [HKA.out.cell]; rfl
  have a2 : w1.cell? ⟨p + 1, 2, none⟩ = some (.string dst) := by rw [HKA.out.cell]; rfl
  have a3 : w1.cell? ⟨p + 1, 3, none⟩ = some (.string b) := by rw [HKA.out.cell]; rfl
  have a4 : w1.cell? ⟨p + 1, 4, none⟩ = some (.int .i64 st) := by rw [HKA.out.cell]; rfl
  have a5 : w1.cell? ⟨p + 1, 5, none⟩ = some (.int .i64 pt) := by rw [HKA.out.cell]; rfl
  have zD := HKD.out.lt
  have zA := HKA.out.lt
  go_upto_region 2 with (fail)
  clear hmod hmw
  by_cases m2 : m = 2
  · subst m2
    have PC := Lib.hid (move_both B d x name dst)
    have DW := doctry_walk _ x name.data.toList dst.data.toList [] (.slice none 0 0) false false w1 HDV.out hF64 hT hn63 hd63
    generalize hTX : TryX x name.data.toList dst.data.toList [] (.slice none 0 0) false false = TX at *
    go_upto_region 3 with (fail)
    go_wp2_with (fail)
    refine Calls.mono DW ?_
    rintro y w2 ⟨vD, rfl, hdoc, hb2⟩
    obtain ⟨u1, u2, u3, rfl, g1, g2, g3⟩ := hdoc
    obtain ⟨B1, l1, c1, rfl⟩ : ∃ A l c, u1 = .slice A l c := by obtain ⟨A, c, e⟩ := g1.form; exact ⟨_, _, _, e⟩
    obtain ⟨B2, l2, c2, rfl⟩ : ∃ A l c, u2 = .slice A l c := by obtain ⟨A, c, e⟩ := g2.form; exact ⟨_, _, _, e⟩
    obtain ⟨B3, l3, c3, rfl⟩ : ∃ A l c, u3 = .slice A l c := by obtain ⟨A, c, e⟩ := g3.form; exact ⟨_, _, _, e⟩
    have hb3 := (Below.refl w2.heap.size w2).alloc (Nat.le_refl _) (.cells #[.slice B1 l1 c1, .slice B2 l2 c2, .slice B3 l3 c3] 41)
    have hb23 := below_trans hb2 hb3
    have hN8 := Blk.new w2 41 #[.slice B1 l1 c1, .slice B2 l2 c2, .slice B3 l3 c3]
    have HDOC := Lib.hid (show Doc (w2.alloc (.cells #[.slice B1 l1 c1, .slice B2 l2 c2, .slice B3 l3 c3] 41)) (.agg #[.slice B1 l1 c1, .slice B2 l2 c2, .slice B3 l3 c3]) TX from ⟨_, _, _, rfl, g1.kept (KeptY.below hb3), g2.kept (KeptY.below hb3), g3.kept (KeptY.below hb3)⟩)
    have HS0 := Lib.hid (show S4 p w2.heap.size kind name dst b st pt (.slice B1 l1 c1) (.slice B2 l2 c2) (.slice B3 l3 c3) (w2.alloc (.cells #[.slice B1 l1 c1, .slice B2 l2 c2, .slice B3 l3 c3] 41)) from ⟨HKA.out.below hb23, hN8⟩)
    have HZ := Lib.hid (HKZ.out.below hb23)
    have HDK := Lib.hid (HD.out.below hb23)
    have HGE := Lib.hid (HG.out.below hb23)
    have HP8 := Lib.hid (show w2.heap.size ≠ p + 2 by have := HKZ.out.below hb2; have := this.lt; omega)
    have HBL := Lib.hid (show Fr B w (w2.alloc (.cells #[.slice B1 l1 c1, .slice B2 l2 c2, .slice B3 l3 c3] 41)) from ⟨(HBZ.out.mono HBw.out).trans (hb23.mono (by have := HKD.out.lt; have := HBw.out; omega)), (KeptY.below (by rw [HP.out]; exact HBZ.out)).trans (KeptY.below hb23)⟩)
    clear DW g1 g2 g3 hb2 hb3 hb23 hN8 hTX d0 d1 d2 a0 a1 a2 a3 a4 a5 zD zA
    go_upto_region 4 with (fail)
    generalize w2.alloc (Obj.cells #[.slice B1 l1 c1, .slice B2 l2 c2, .slice B3 l3 c3] 41) = w3 at *
    generalize w2.heap.size = p8 at *
    refine wp_region_noPanic ?_
    refine wp_region_held_drew (S := (fun w' => S4 p p8 kind name dst b st pt (.slice B1 l1 c1) (.slice B2 l2 c2) (.slice B3 l3 c3) w')) (by kernel_rfl) ?_ (fun hHeld => ?_)
    · exact HS0.out
    have bd : Below w3.heap.size w3 w3.drew := below_drewN (Below.refl w3.heap.size w3) 1
    have HZd := Lib.hid (HZ.out.below bd)
    have HDd := Lib.hid (HDK.out.below bd)
    have HGd := Lib.hid (HGE.out.below bd)
    have HOd := Lib.hid (HDOC.out.kept (KeptY.below bd))
    have HBd := Lib.hid (show Fr B w w3.drew from HBL.out.trans (Fr.below HDK.out.1.lo.2 bd))
    clear bd
    skip
    generalize w3.drew = wd at *
    refine reg_take (i := 0) (oi := _) (v := ?_) rfl (by kernel_rfl) (by kernel_rfl) (by kernel_rfl) (fun _ _ _ h => h) (by rfl) ?_ (by assumption) ?_
    rotate_left
    · intro w hSw; (try dsimp only at hSw); have a0 : w.cell? ⟨p + 1, 0, none⟩ = some (.int .i64 kind) := (by rw [hSw.1.cell]; rfl); have a1 : w.cell? ⟨p + 1, 1, none⟩ = some (.string name) := (by rw [hSw.1.cell]; rfl); have a2 : w.cell? ⟨p + 1, 2, none⟩ = some (.string dst) := (by rw [hSw.1.cell]; rfl); have a3 : w.cell? ⟨p + 1, 3, none⟩ = some (.string b) := (by rw [hSw.1.cell]; rfl); have a4 : w.cell? ⟨p + 1, 4, none⟩ = some (.int .i64 st) := (by rw [hSw.1.cell]; rfl); have a5 : w.cell? ⟨p + 1, 5, none⟩ = some (.int .i64 pt) := (by rw [hSw.1.cell]; rfl); have d0 : w.cell? ⟨p8, 0, none⟩ = some (.slice B1 l1 c1) := (by rw [hSw.2.cell]; rfl); have d1 : w.cell? ⟨p8, 1, none⟩ = some (.slice B2 l2 c2) := (by rw [hSw.2.cell]; rfl); have d2 : w.cell? ⟨p8, 2, none⟩ = some (.slice B3 l3 c3) := (by rw [hSw.2.cell]; rfl); have zA := hSw.1.lt; have zD := hSw.2.lt; go_simp; try with_reducible rfl
    (try simp only [Act.put, List.setIfInBounds_toArray, List.set_cons_zero, List.set_cons_succ])
    refine reg_take (i := 1) (oi := _) (v := ?_) rfl (by kernel_rfl) (by kernel_rfl) (by kernel_rfl) (fun _ _ _ h => h) (by rfl) ?_ (by assumption) ?_
    rotate_left
    · intro w hSw; (try dsimp only at hSw); have a0 : w.cell? ⟨p + 1, 0, none⟩ = some (.int .i64 kind) := (by rw [hSw.1.cell]; rfl); have a1 : w.cell? ⟨p + 1, 1, none⟩ = some (.string name) := (by rw [hSw.1.cell]; rfl); have a2 : w.cell? ⟨p + 1, 2, none⟩ = some (.string dst) := (by rw [hSw.1.cell]; rfl); have a3 : w.cell? ⟨p + 1, 3, none⟩ = some (.string b) := (by rw [hSw.1.cell]; rfl); have a4 : w.cell? ⟨p + 1, 4, none⟩ = some (.int .i64 st) := (by rw [hSw.1.cell]; rfl); have a5 : w.cell? ⟨p + 1, 5, none⟩ = some (.int .i64 pt) := (by rw [hSw.1.cell]; rfl); have d0 : w.cell? ⟨p8, 0, none⟩ = some (.slice B1 l1 c1) := (by rw [hSw.2.cell]; rfl); have d1 : w.cell? ⟨p8, 1, none⟩ = some (.slice B2 l2 c2) := (by rw [hSw.2.cell]; rfl); have d2 : w.cell? ⟨p8, 2, none⟩ = some (.slice B3 l3 c3) := (by rw [hSw.2.cell]; rfl); have zA := hSw.1.lt; have zD := hSw.2.lt; go_simp; try with_reducible rfl
    (try simp only [Act.put, List.setIfInBounds_toArray, List.set_cons_zero, List.set_cons_succ])
    refine reg_take (i := 2) (oi := _) (v := ?_) rfl (by kernel_rfl) (by kernel_rfl) (by kernel_rfl) (fun _ _ _ h => h) (by rfl) ?_ (by assumption) ?_
    rotate_left
    · intro w hSw; (try dsimp only at hSw); have a0 : w.cell? ⟨p + 1, 0, none⟩ = some (.int .i64 kind) := (by rw [hSw.1.cell]; rfl); have a1 : w.cell? ⟨p + 1, 1, none⟩ = some (.string name) := (by rw [hSw.1.cell]; rfl); have a2 : w.cell? ⟨p + 1, 2, none⟩ = some (.string dst) := (by rw [hSw.1.cell]; rfl); have a3 : w.cell? ⟨p + 1, 3, none⟩ = some (.string b) := (by rw [hSw.1.cell]; rfl); have a4 : w.cell? ⟨p + 1, 4, none⟩ = some (.int .i64 st) := (by rw [hSw.1.cell]; rfl); have a5 : w.cell? ⟨p + 1, 5, none⟩ = some (.int .i64 pt) := (by rw [hSw.1.cell]; rfl); have d0 : w.cell? ⟨p8, 0, none⟩ = some (.slice B1 l1 c1) := (by rw [hSw.2.cell]; rfl); have d1 : w.cell? ⟨p8, 1, none⟩ = some (.slice B2 l2 c2) := (by rw [hSw.2.cell]; rfl); have d2 : w.cell? ⟨p8, 2, none⟩ = some (.slice B3 l3 c3) := (by rw [hSw.2.cell]; rfl); have zA := hSw.1.lt; have zD := hSw.2.lt; go_simp; try with_reducible rfl
    (try simp only [Act.put, List.setIfInBounds_toArray, List.set_cons_zero, List.set_cons_succ])
    refine reg_take (i := 3) (oi := _) (v := ?_) rfl (by kernel_rfl) (by kernel_rfl) (by kernel_rfl) (fun _ _ _ h => h) (by rfl) ?_ (by assumption) ?_
    rotate_left
    · intro w hSw; (try dsimp only at hSw); have a0 : w.cell? ⟨p + 1, 0, none⟩ = some (.int .i64 kind) := (by rw [hSw.1.cell]; rfl); have a1 : w.cell? ⟨p + 1, 1, none⟩ = some (.string name) := (by rw [hSw.1.cell]; rfl); have a2 : w.cell? ⟨p + 1, 2, none⟩ = some (.string dst) := (by rw [hSw.1.cell]; rfl); have a3 : w.cell? ⟨p + 1, 3, none⟩ = some (.string b) := (by rw [hSw.1.cell]; rfl); have a4 : w.cell? ⟨p + 1, 4, none⟩ = some (.int .i64 st) := (by rw [hSw.1.cell]; rfl); have a5 : w.cell? ⟨p + 1, 5, none⟩ = some (.int .i64 pt) := (by rw [hSw.1.cell]; rfl); have d0 : w.cell? ⟨p8, 0, none⟩ = some (.slice B1 l1 c1) := (by rw [hSw.2.cell]; rfl); have d1 : w.cell? ⟨p8, 1, none⟩ = some (.slice B2 l2 c2) := (by rw [hSw.2.cell]; rfl); have d2 : w.cell? ⟨p8, 2, none⟩ = some (.slice B3 l3 c3) := (by rw [hSw.2.cell]; rfl); have zA := hSw.1.lt; have zD := hSw.2.lt; go_simp; try with_reducible rfl
    (try simp only [Act.put, List.setIfInBounds_toArray, List.set_cons_zero, List.set_cons_succ])
    refine reg_take (i := 4) (oi := _) (v := ?_) rfl (by kernel_rfl) (by kernel_rfl) (by kernel_rfl) (fun _ _ _ h => h) (by rfl) ?_ (by assumption) ?_
    rotate_left
    · intro w hSw; (try dsimp only at hSw); have a0 : w.cell? ⟨p + 1, 0, none⟩ = some (.int .i64 kind) := (by rw [hSw.1.cell]; rfl); have a1 : w.cell? ⟨p + 1, 1, none⟩ = some (.string name) := (by rw [hSw.1.cell]; rfl); have a2 : w.cell? ⟨p + 1, 2, none⟩ = some (.string dst) := (by rw [hSw.1.cell]; rfl); have a3 : w.cell? ⟨p + 1, 3, none⟩ = some (.string b) := (by rw [hSw.1.cell]; rfl); have a4 : w.cell? ⟨p + 1, 4, none⟩ = some (.int .i64 st) := (by rw [hSw.1.cell]; rfl); have a5 : w.cell? ⟨p + 1, 5, none⟩ = some (.int .i64 pt) := (by rw [hSw.1.cell]; rfl); have d0 : w.cell? ⟨p8, 0, none⟩ = some (.slice B1 l1 c1) := (by rw [hSw.2.cell]; rfl); have d1 : w.cell? ⟨p8, 1, none⟩ = some (.slice B2 l2 c2) := (by rw [hSw.2.cell]; rfl); have d2 : w.cell? ⟨p8, 2, none⟩ = some (.slice B3 l3 c3) := (by rw [hSw.2.cell]; rfl); have zA := hSw.1.lt; have zD := hSw.2.lt; go_simp; try with_reducible rfl
    (try simp only [Act.put, List.setIfInBounds_toArray, List.set_cons_zero, List.set_cons_succ])
    refine reg_take (i := 5) (oi := _) (v := ?_) rfl (by kernel_rfl) (by kernel_rfl) (by kernel_rfl) (fun _ _ _ h => h) (by rfl) ?_ (by assumption) ?_
    rotate_left
    · intro w hSw; (try dsimp only at hSw); have a0 : w.cell? ⟨p + 1, 0, none⟩ = some (.int .i64 kind) := (by rw [hSw.1.cell]; rfl); have a1 : w.cell? ⟨p + 1, 1, none⟩ = some (.string name) := (by rw [hSw.1.cell]; rfl); have a2 : w.cell? ⟨p + 1, 2, none⟩ = some (.string dst) := (by rw [hSw.1.cell]; rfl); have a3 : w.cell? ⟨p + 1, 3, none⟩ = some (.string b) := (by rw [hSw.1.cell]; rfl); have a4 : w.cell? ⟨p + 1, 4, none⟩ = some (.int .i64 st) := (by rw [hSw.1.cell]; rfl); have a5 : w.cell? ⟨p + 1, 5, none⟩ = some (.int .i64 pt) := (by rw [hSw.1.cell]; rfl); have d0 : w.cell? ⟨p8, 0, none⟩ = some (.slice B1 l1 c1) := (by rw [hSw.2.cell]; rfl); have d1 : w.cell? ⟨p8, 1, none⟩ = some (.slice B2 l2 c2) := (by rw [hSw.2.cell]; rfl); have d2 : w.cell? ⟨p8, 2, none⟩ = some (.slice B3 l3 c3) := (by rw [hSw.2.cell]; rfl); have zA := hSw.1.lt; have zD := hSw.2.lt; go_simp; try with_reducible rfl
    (try simp only [Act.put, List.setIfInBounds_toArray, List.set_cons_zero, List.set_cons_succ])
    refine reg_take (i := 8) (oi := _) (v := ?_) rfl (by kernel_rfl) (by kernel_rfl) (by kernel_rfl) (fun _ _ _ h => h) (by rfl) ?_ (by assumption) ?_
    rotate_left
    · intro w hSw; (try dsimp only at hSw); have a0 : w.cell? ⟨p + 1, 0, none⟩ = some (.int .i64 kind) := (by rw [hSw.1.cell]; rfl); have a1 : w.cell? ⟨p + 1, 1, none⟩ = some (.string name) := (by rw [hSw.1.cell]; rfl); have a2 : w.cell? ⟨p + 1, 2, none⟩ = some (.string dst) := (by rw [hSw.1.cell]; rfl); have a3 : w.cell? ⟨p + 1, 3, none⟩ = some (.string b) := (by rw [hSw.1.cell]; rfl); have a4 : w.cell? ⟨p + 1, 4, none⟩ = some (.int .i64 st) := (by rw [hSw.1.cell]; rfl); have a5 : w.cell? ⟨p + 1, 5, none⟩ = some (.int .i64 pt) := (by rw [hSw.1.cell]; rfl); have d0 : w.cell? ⟨p8, 0, none⟩ = some (.slice B1 l1 c1) := (by rw [hSw.2.cell]; rfl); have d1 : w.cell? ⟨p8, 1, none⟩ = some (.slice B2 l2 c2) := (by rw [hSw.2.cell]; rfl); have d2 : w.cell? ⟨p8, 2, none⟩ = some (.slice B3 l3 c3) := (by rw [hSw.2.cell]; rfl); have zA := hSw.1.lt; have zD := hSw.2.lt; go_simp; try with_reducible rfl
    (try simp only [Act.put, List.setIfInBounds_toArray, List.set_cons_zero, List.set_cons_succ])
    refine wpAnyH_ready (rs := [6]) (by kernel_rfl) (by simp) ?_
    refine reg_each (o := _) rfl (fun K hK => ?_) ?_
    · skip
      go_simp
      refine (PC.out _ HDd.out).mono ?_
      rintro q w6 ⟨rfl, ⟨x9, hx9, hd9⟩, hF9⟩
      have HZ6 := Lib.hid (blk_keptY HZd.out hF9.2 (by decide) (by decide))
      have HD6 := Lib.hid hd9
      have HO6 := Lib.hid (hx9 _ _ (HOd.out.kept hF9.2))
      have HB6 := Lib.hid (HBd.out.trans hF9)
      have HG6 := Lib.hid (show ErrType w6 from (hF9.1.cell (p := ⟨0, 0, none⟩) hB0).trans HGd.out)
      have K6 := Lib.hid hF9.2
      clear hF9 hd9 hx9
      go_wp2_with (fail)
      refine hK.out _ _ ?_ (fun hHeld2 => ?_)
      · exact hHeld.kept K6.out
      clear hK K hHeld
      have hHeld := hHeld2
      clear hHeld2
      (try simp only [Act.put, List.setIfInBounds_toArray, List.set_cons_zero, List.set_cons_succ])
      clear K6 PC HZd HDd HGd HOd HBd
      refine wpAnyH_ready (rs := [7]) (by kernel_rfl) (by simp) ?_
      refine reg_each (o := _) rfl (fun K hK => ?_) ?_
      · skip
        go_simp
        refine (num_errI _ _ HG6.out).mono ?_
        rintro q w7 ⟨rfl, hb7⟩
        have k7 := KeptY.below hb7
        have HZ7 := Lib.hid (HZ6.out.below hb7)
        have HD7 := Lib.hid (HD6.out.below hb7)
        have HO7 := Lib.hid (HO6.out.kept k7)
        have HB7 := Lib.hid (HB6.out.trans (Fr.below HD6.out.1.lo.2 hb7))
        have K7 := Lib.hid k7
        clear hb7 k7
        go_wp2_with (fail)
        refine hK.out _ _ ?_ (fun hHeld2 => ?_)
        · exact hHeld.kept K7.out
        clear hK K hHeld
        have hHeld := hHeld2
        clear hHeld2
        (try simp only [Act.put, List.setIfInBounds_toArray, List.set_cons_zero, List.set_cons_succ])
        clear HZ6 HD6 HO6 HB6 HG6 K7
        refine reg_take (i := 9) (oi := _) (v := ?_) rfl (by kernel_rfl) (by kernel_rfl) (by kernel_rfl) (fun _ _ _ h => h) (by rfl) ?_ (by assumption) ?_
        rotate_left
        · intro w hSw; (try dsimp only at hSw); have a0 : w.cell? ⟨p + 1, 0, none⟩ = some (.int .i64 kind) := (by rw [hSw.1.cell]; rfl); have a1 : w.cell? ⟨p + 1, 1, none⟩ = some (.string name) := (by rw [hSw.1.cell]; rfl); have a2 : w.cell? ⟨p + 1, 2, none⟩ = some (.string dst) := (by rw [hSw.1.cell]; rfl); have a3 : w.cell? ⟨p + 1, 3, none⟩ = some (.string b) := (by rw [hSw.1.cell]; rfl); have a4 : w.cell? ⟨p + 1, 4, none⟩ = some (.int .i64 st) := (by rw [hSw.1.cell]; rfl); have a5 : w.cell? ⟨p + 1, 5, none⟩ = some (.int .i64 pt) := (by rw [hSw.1.cell]; rfl); have d0 : w.cell? ⟨p8, 0, none⟩ = some (.slice B1 l1 c1) := (by rw [hSw.2.cell]; rfl); have d1 : w.cell? ⟨p8, 1, none⟩ = some (.slice B2 l2 c2) := (by rw [hSw.2.cell]; rfl); have d2 : w.cell? ⟨p8, 2, none⟩ = some (.slice B3 l3 c3) := (by rw [hSw.2.cell]; rfl); have zA := hSw.1.lt; have zD := hSw.2.lt; go_simp; try with_reducible rfl
        (try simp only [Act.put, List.setIfInBounds_toArray, List.set_cons_zero, List.set_cons_succ])
        refine wpAnyH_ready (rs := [10]) (by kernel_rfl) (by simp) ?_
        refine reg_each (o := _) rfl (fun K hK => ?_) ?_
        · skip
          have kZ0 := HZ7.out
          have y0 : w7.cell? ⟨p + 2, 0, none⟩ = some (.slice none 0 0) := by rw [kZ0.cell]; rfl
          have y1 : w7.cell? ⟨p + 2, 1, none⟩ = some (.slice none 0 0) := by rw [kZ0.cell]; rfl
          have y2 : w7.cell? ⟨p + 2, 2, none⟩ = some (.slice none 0 0) := by rw [kZ0.cell]; rfl
          have f0 := kZ0.frozen 0
          have f1 := kZ0.frozen 1
          have f2 := kZ0.frozen 2
          have zZ := kZ0.lt
          go_simp
          refine hK.out _ _ ?_ (fun hHeld2 => ?_)
          · exact ((hHeld.set HP8.out 0 _).set HP8.out 1 _).set HP8.out 2 _
          clear hK K hHeld
          have hHeld := hHeld2
          clear hHeld2
          (try simp only [Act.put, List.setIfInBounds_toArray, List.set_cons_zero, List.set_cons_succ])
          refine reg_take (i := 11) (oi := _) (v := ?_) rfl (by kernel_rfl) (by kernel_rfl) (by kernel_rfl) (fun _ _ _ h => h) (by rfl) ?_ (by assumption) ?_
          rotate_left
          · intro w hSw; (try dsimp only at hSw); have a0 : w.cell? ⟨p + 1, 0, none⟩ = some (.int .i64 kind) := (by rw [hSw.1.cell]; rfl); have a1 : w.cell? ⟨p + 1, 1, none⟩ = some (.string name) := (by rw [hSw.1.cell]; rfl); have a2 : w.cell? ⟨p + 1, 2, none⟩ = some (.string dst) := (by rw [hSw.1.cell]; rfl); have a3 : w.cell? ⟨p + 1, 3, none⟩ = some (.string b) := (by rw [hSw.1.cell]; rfl); have a4 : w.cell? ⟨p + 1, 4, none⟩ = some (.int .i64 st) := (by rw [hSw.1.cell]; rfl); have a5 : w.cell? ⟨p + 1, 5, none⟩ = some (.int .i64 pt) := (by rw [hSw.1.cell]; rfl); have d0 : w.cell? ⟨p8, 0, none⟩ = some (.slice B1 l1 c1) := (by rw [hSw.2.cell]; rfl); have d1 : w.cell? ⟨p8, 1, none⟩ = some (.slice B2 l2 c2) := (by rw [hSw.2.cell]; rfl); have d2 : w.cell? ⟨p8, 2, none⟩ = some (.slice B3 l3 c3) := (by rw [hSw.2.cell]; rfl); have zA := hSw.1.lt; have zD := hSw.2.lt; go_simp; try with_reducible rfl
          (try simp only [Act.put, List.setIfInBounds_toArray, List.set_cons_zero, List.set_cons_succ])
          refine wpAnyH_done (by kernel_rfl) ?_ _
          refine NoPanic.normal ?_
          clear hHeld y0 y1 y2 f0 f1 f2 zZ
          go_wp2_with (fail)
          have kZ3 := ((kZ0.put 0 (.slice B1 l1 c1) rfl).put 1 (.slice B2 l2 c2) rfl).put 2 (.slice B3 l3 c3) rfl
          refine bodyPost_end (results_ct_row rfl _ _ (p + 2) _ _ _ _ rfl kZ3) rfl ⟨_, x9, by simp, both_end HD7.out HO7.out kZ0, ?_⟩
          exact fr_set3 HB7.out (by have := HBw.out; omega) (by rw [HP.out]; omega)
        exact AllReadyH.nil
      exact AllReadyH.nil
    exact AllReadyH.nil
  · by_cases m3 : m = 3
    · subst m3
      have PC := Lib.hid (remove_both B d x name)
      have DW := doctry_walk _ x name.data.toList [] [] (.slice none 0 0) false true w1 HDV.out hF64 hT hn63 (by simp)
      generalize hTX : TryX x name.data.toList [] [] (.slice none 0 0) false true = TX at *
      go_upto_region 6 with (fail)
      go_wp2_with (fail)
      refine Calls.mono DW ?_
      rintro y w2 ⟨vD, rfl, hdoc, hb2⟩
      obtain ⟨u1, u2, u3, rfl, g1, g2, g3⟩ := hdoc
      obtain ⟨B1, l1, c1, rfl⟩ : ∃ A l c, u1 = .slice A l c := by obtain ⟨A, c, e⟩ := g1.form; exact ⟨_, _, _, e⟩
      obtain ⟨B2, l2, c2, rfl⟩ : ∃ A l c, u2 = .slice A l c := by obtain ⟨A, c, e⟩ := g2.form; exact ⟨_, _, _, e⟩
      obtain ⟨B3, l3, c3, rfl⟩ : ∃ A l c, u3 = .slice A l c := by obtain ⟨A, c, e⟩ := g3.form; exact ⟨_, _, _, e⟩
      have hb3 := (Below.refl w2.heap.size w2).alloc (Nat.le_refl _) (.cells #[.slice B1 l1 c1, .slice B2 l2 c2, .slice B3 l3 c3] 41)
      have hb23 := below_trans hb2 hb3
      have hN8 := Blk.new w2 41 #[.slice B1 l1 c1, .slice B2 l2 c2, .slice B3 l3 c3]
      have HDOC := Lib.hid (show Doc (w2.alloc (.cells #[.slice B1 l1 c1, .slice B2 l2 c2, .slice B3 l3 c3] 41)) (.agg #[.slice B1 l1 c1, .slice B2 l2 c2, .slice B3 l3 c3]) TX from ⟨_, _, _, rfl, g1.kept (KeptY.below hb3), g2.kept (KeptY.below hb3), g3.kept (KeptY.below hb3)⟩)
      have HS0 := Lib.hid (show S4 p w2.heap.size kind name dst b st pt (.slice B1 l1 c1) (.slice B2 l2 c2) (.slice B3 l3 c3) (w2.alloc (.cells #[.slice B1 l1 c1, .slice B2 l2 c2, .slice B3 l3 c3] 41)) from ⟨HKA.out.below hb23, hN8⟩)
      have HZ := Lib.hid (HKZ.out.below hb23)
      have HDK := Lib.hid (HD.out.below hb23)
      have HGE := Lib.hid (HG.out.below hb23)
      have HP8 := Lib.hid (show w2.heap.size ≠ p + 2 by have := HKZ.out.below hb2; have := this.lt; omega)
      have HBL := Lib.hid (show Fr B w (w2.alloc (.cells #[.slice B1 l1 c1, .slice B2 l2 c2, .slice B3 l3 c3] 41)) from ⟨(HBZ.out.mono HBw.out).trans (hb23.mono (by have := HKD.out.lt; have := HBw.out; omega)), (KeptY.below (by rw [HP.out]; exact HBZ.out)).trans (KeptY.below hb23)⟩)
      clear DW g1 g2 g3 hb2 hb3 hb23 hN8 hTX d0 d1 d2 a0 a1 a2 a3 a4 a5 zD zA
      go_upto_region 7 with (fail)
      generalize w2.alloc (Obj.cells #[.slice B1 l1 c1, .slice B2 l2 c2, .slice B3 l3 c3] 41) = w3 at *
      generalize w2.heap.size = p8 at *
      refine wp_region_noPanic ?_
      refine wp_region_held_drew (S := (fun w' => S4 p p8 kind name dst b st pt (.slice B1 l1 c1) (.slice B2 l2 c2) (.slice B3 l3 c3) w')) (by kernel_rfl) ?_ (fun hHeld => ?_)
      · exact HS0.out
      have bd : Below w3.heap.size w3 w3.drew := below_drewN (Below.refl w3.heap.size w3) 1
      have HZd := Lib.hid (HZ.out.below bd)
      have HDd := Lib.hid (HDK.out.below bd)
      have HGd := Lib.hid (HGE.out.below bd)
      have HOd := Lib.hid (HDOC.out.kept (KeptY.below bd))
      have HBd := Lib.hid (show Fr B w w3.drew from HBL.out.trans (Fr.below HDK.out.1.lo.2 bd))
      clear bd
      skip
      generalize w3.drew = wd at *
      refine reg_take (i := 0) (oi := _) (v := ?_) rfl (by kernel_rfl) (by kernel_rfl) (by kernel_rfl) (fun _ _ _ h => h) (by rfl) ?_ (by assumption) ?_
      rotate_left
      · intro w hSw; (try dsimp only at hSw); have a0 : w.cell? ⟨p + 1, 0, none⟩ = some (.int .i64 kind) := (by rw [hSw.1.cell]; rfl); have a1 : w.cell? ⟨p + 1, 1, none⟩ = some (.string name) := (by rw [hSw.1.cell]; rfl); have a2 : w.cell? ⟨p + 1, 2, none⟩ = some (.string dst) := (by rw [hSw.1.cell]; rfl); have a3 : w.cell? ⟨p + 1, 3, none⟩ = some (.string b) := (by rw [hSw.1.cell]; rfl); have a4 : w.cell? ⟨p + 1, 4, none⟩ = some (.int .i64 st) := (by rw [hSw.1.cell]; rfl); have a5 : w.cell? ⟨p + 1, 5, none⟩ = some (.int .i64 pt) := (by rw [hSw.1.cell]; rfl); have d0 : w.cell? ⟨p8, 0, none⟩ = some (.slice B1 l1 c1) := (by rw [hSw.2.cell]; rfl); have d1 : w.cell? ⟨p8, 1, none⟩ = some (.slice B2 l2 c2) := (by rw [hSw.2.cell]; rfl); have d2 : w.cell? ⟨p8, 2, none⟩ = some (.slice B3 l3 c3) := (by rw [hSw.2.cell]; rfl); have zA := hSw.1.lt; have zD := hSw.2.lt; go_simp; try with_reducible rfl
      (try simp only [Act.put, List.setIfInBounds_toArray, List.set_cons_zero, List.set_cons_succ])
      refine reg_take (i := 1) (oi := _) (v := ?_) rfl (by kernel_rfl) (by kernel_rfl) (by kernel_rfl) (fun _ _ _ h => h) (by rfl) ?_ (by assumption) ?_
      rotate_left
      · intro w hSw; (try dsimp only at hSw); have a0 : w.cell? ⟨p + 1, 0, none⟩ = some (.int .i64 kind) := (by rw [hSw.1.cell]; rfl); have a1 : w.cell? ⟨p + 1, 1, none⟩ = some (.string name) := (by rw [hSw.1.cell]; rfl); have a2 : w.cell? ⟨p + 1, 2, none⟩ = some (.string dst) := (by rw [hSw.1.cell]; rfl); have a3 : w.cell? ⟨p + 1, 3, none⟩ = some (.string b) := (by rw [hSw.1.cell]; rfl); have a4 : w.cell? ⟨p + 1, 4, none⟩ = some (.int .i64 st) := (by rw [hSw.1.cell]; rfl); have a5 : w.cell? ⟨p + 1, 5, none⟩ = some (.int .i64 pt) := (by rw [hSw.1.cell]; rfl); have d0 : w.cell? ⟨p8, 0, none⟩ = some (.slice B1 l1 c1) := (by rw [hSw.2.cell]; rfl); have d1 : w.cell? ⟨p8, 1, none⟩ = some (.slice B2 l2 c2) := (by rw [hSw.2.cell]; rfl); have d2 : w.cell? ⟨p8, 2, none⟩ = some (.slice B3 l3 c3) := (by rw [hSw.2.cell]; rfl); have zA := hSw.1.lt; have zD := hSw.2.lt; go_simp; try with_reducible rfl
      (try simp only [Act.put, List.setIfInBounds_toArray, List.set_cons_zero, List.set_cons_succ])
      refine reg_take (i := 2) (oi := _) (v := ?_) rfl (by kernel_rfl) (by kernel_rfl) (by kernel_rfl) (fun _ _ _ h => h) (by rfl) ?_ (by assumption) ?_
      rotate_left
      · intro w hSw; (try dsimp only at hSw); have a0 : w.cell? ⟨p + 1, 0, none⟩ = some (.int .i64 kind) := (by rw [hSw.1.cell]; rfl); have a1 : w.cell? ⟨p + 1, 1, none⟩ = some (.string name) := (by rw [hSw.1.cell]; rfl); have a2 : w.cell? ⟨p + 1, 2, none⟩ = some (.string dst) := (by rw [hSw.1.cell]; rfl); have a3 : w.cell? ⟨p + 1, 3, none⟩ = some (.string b) := (by rw [hSw.1.cell]; rfl); have a4 : w.cell? ⟨p + 1, 4, none⟩ = some (.int .i64 st) := (by rw [hSw.1.cell]; rfl); have a5 : w.cell? ⟨p + 1, 5, none⟩ = some (.int .i64 pt) := (by rw [hSw.1.cell]; rfl); have d0 : w.cell? ⟨p8, 0, none⟩ = some (.slice B1 l1 c1) := (by rw [hSw.2.cell]; rfl); have d1 : w.cell? ⟨p8, 1, none⟩ = some (.slice B2 l2 c2) := (by rw [hSw.2.cell]; rfl); have d2 : w.cell? ⟨p8, 2, none⟩ = some (.slice B3 l3 c3) := (by rw [hSw.2.cell]; rfl); have zA := hSw.1.lt; have zD := hSw.2.lt; go_simp; try with_reducible rfl
      (try simp only [Act.put, List.setIfInBounds_toArray, List.set_cons_zero, List.set_cons_succ])
      refine reg_take (i := 3) (oi := _) (v := ?_) rfl (by kernel_rfl) (by kernel_rfl) (by kernel_rfl) (fun _ _ _ h => h) (by rfl) ?_ (by assumption) ?_
      rotate_left
      · intro w hSw; (try dsimp only at hSw); have a0 : w.cell? ⟨p + 1, 0, none⟩ = some (.int .i64 kind) := (by rw [hSw.1.cell]; rfl); have a1 : w.cell? ⟨p + 1, 1, none⟩ = some (.string name) := (by rw [hSw.1.cell]; rfl); have a2 : w.cell? ⟨p + 1, 2, none⟩ = some (.string dst) := (by rw [hSw.1.cell]; rfl); have a3 : w.cell? ⟨p + 1, 3, none⟩ = some (.string b) := (by rw [hSw.1.cell]; rfl); have a4 : w.cell? ⟨p + 1, 4, none⟩ = some (.int .i64 st) := (by rw [hSw.1.cell]; rfl); have a5 : w.cell? ⟨p + 1, 5, none⟩ = some (.int .i64 pt) := (by rw [hSw.1.cell]; rfl); have d0 : w.cell? ⟨p8, 0, none⟩ = some (.slice B1 l1 c1) := (by rw [hSw.2.cell]; rfl); have d1 : w.cell? ⟨p8, 1, none⟩ = some (.slice B2 l2 c2) := (by rw [hSw.2.cell]; rfl); have d2 : w.cell? ⟨p8, 2, none⟩ = some (.slice B3 l3 c3) := (by rw [hSw.2.cell]; rfl); have zA := hSw.1.lt; have zD := hSw.2.lt; go_simp; try with_reducible rfl
      (try simp only [Act.put, List.setIfInBounds_toArray, List.set_cons_zero, List.set_cons_succ])
      refine reg_take (i := 6) (oi := _) (v := ?_) rfl (by kernel_rfl) (by kernel_rfl) (by kernel_rfl) (fun _ _ _ h => h) (by rfl) ?_ (by assumption) ?_
      rotate_left
      · intro w hSw; (try dsimp only at hSw); have a0 : w.cell? ⟨p + 1, 0, none⟩ = some (.int .i64 kind) := (by rw [hSw.1.cell]; rfl); have a1 : w.cell? ⟨p + 1, 1, none⟩ = some (.string name) := (by rw [hSw.1.cell]; rfl); have a2 : w.cell? ⟨p + 1, 2, none⟩ = some (.string dst) := (by rw [hSw.1.cell]; rfl); have a3 : w.cell? ⟨p + 1, 3, none⟩ = some (.string b) := (by rw [hSw.1.cell]; rfl); have a4 : w.cell? ⟨p + 1, 4, none⟩ = some (.int .i64 st) := (by rw [hSw.1.cell]; rfl); have a5 : w.cell? ⟨p + 1, 5, none⟩ = some (.int .i64 pt) := (by rw [hSw.1.cell]; rfl); have d0 : w.cell? ⟨p8, 0, none⟩ = some (.slice B1 l1 c1) := (by rw [hSw.2.cell]; rfl); have d1 : w.cell? ⟨p8, 1, none⟩ = some (.slice B2 l2 c2) := (by rw [hSw.2.cell]; rfl); have d2 : w.cell? ⟨p8, 2, none⟩ = some (.slice B3 l3 c3) := (by rw [hSw.2.cell]; rfl); have zA := hSw.1.lt; have zD := hSw.2.lt; go_simp; try with_reducible rfl
      (try simp only [Act.put, List.setIfInBounds_toArray, List.set_cons_zero, List.set_cons_succ])
      refine wpAnyH_ready (rs := [4]) (by kernel_rfl) (by simp) ?_
      refine reg_each (o := _) rfl (fun K hK => ?_) ?_
      · skip
        go_simp
        refine (PC.out _ HDd.out).mono ?_
        rintro q w6 ⟨rfl, ⟨x9, hx9, hd9⟩, hF9⟩
        have HZ6 := Lib.hid (blk_keptY HZd.out hF9.2 (by decide) (by decide))
        have HD6 := Lib.hid hd9
        have HO6 := Lib.hid (hx9 _ _ (HOd.out.kept hF9.2))
        have HB6 := Lib.hid (HBd.out.trans hF9)
        have HG6 := Lib.hid (show ErrType w6 from (hF9.1.cell (p := ⟨0, 0, none⟩) hB0).trans HGd.out)
        have K6 := Lib.hid hF9.2
        clear hF9 hd9 hx9
        go_wp2_with (fail)
        refine hK.out _ _ ?_ (fun hHeld2 => ?_)
        · exact hHeld.kept K6.out
        clear hK K hHeld
        have hHeld := hHeld2
        clear hHeld2
        (try simp only [Act.put, List.setIfInBounds_toArray, List.set_cons_zero, List.set_cons_succ])
        clear K6 PC HZd HDd HGd HOd HBd
        refine wpAnyH_ready (rs := [5]) (by kernel_rfl) (by simp) ?_
        refine reg_each (o := _) rfl (fun K hK => ?_) ?_
        · skip
          go_simp
          refine (num_errI _ _ HG6.out).mono ?_
          rintro q w7 ⟨rfl, hb7⟩
          have k7 := KeptY.below hb7
          have HZ7 := Lib.hid (HZ6.out.below hb7)
          have HD7 := Lib.hid (HD6.out.below hb7)
          have HO7 := Lib.hid (HO6.out.kept k7)
          have HB7 := Lib.hid (HB6.out.trans (Fr.below HD6.out.1.lo.2 hb7))
          have K7 := Lib.hid k7
          clear hb7 k7
          go_wp2_with (fail)
          refine hK.out _ _ ?_ (fun hHeld2 => ?_)
          · exact hHeld.kept K7.out
          clear hK K hHeld
          have hHeld := hHeld2
          clear hHeld2
          (try simp only [Act.put, List.setIfInBounds_toArray, List.set_cons_zero, List.set_cons_succ])
          clear HZ6 HD6 HO6 HB6 HG6 K7
          refine reg_take (i := 7) (oi := _) (v := ?_) rfl (by kernel_rfl) (by kernel_rfl) (by kernel_rfl) (fun _ _ _ h => h) (by rfl) ?_ (by assumption) ?_
          rotate_left
          · intro w hSw; (try dsimp only at hSw); have a0 : w.cell? ⟨p + 1, 0, none⟩ = some (.int .i64 kind) := (by rw [hSw.1.cell]; rfl); have a1 : w.cell? ⟨p + 1, 1, none⟩ = some (.string name) := (by rw [hSw.1.cell]; rfl); have a2 : w.cell? ⟨p + 1, 2, none⟩ = some (.string dst) := (by rw [hSw.1.cell]; rfl); have a3 : w.cell? ⟨p + 1, 3, none⟩ = some (.string b) := (by rw [hSw.1.cell]; rfl); have a4 : w.cell? ⟨p + 1, 4, none⟩ = some (.int .i64 st) := (by rw [hSw.1.cell]; rfl); have a5 : w.cell? ⟨p + 1, 5, none⟩ = some (.int .i64 pt) := (by rw [hSw.1.cell]; rfl); have d0 : w.cell? ⟨p8, 0, none⟩ = some (.slice B1 l1 c1) := (by rw [hSw.2.cell]; rfl); have d1 : w.cell? ⟨p8, 1, none⟩ = some (.slice B2 l2 c2) := (by rw [hSw.2.cell]; rfl); have d2 : w.cell? ⟨p8, 2, none⟩ = some (.slice B3 l3 c3) := (by rw [hSw.2.cell]; rfl); have zA := hSw.1.lt; have zD := hSw.2.lt; go_simp; try with_reducible rfl
          (try simp only [Act.put, List.setIfInBounds_toArray, List.set_cons_zero, List.set_cons_succ])
          refine wpAnyH_ready (rs := [8]) (by kernel_rfl) (by simp) ?_
          refine reg_each (o := _) rfl (fun K hK => ?_) ?_
          · skip
            have kZ0 := HZ7.out
            have y0 : w7.cell? ⟨p + 2, 0, none⟩ = some (.slice none 0 0) := by rw [kZ0.cell]; rfl
            have y1 : w7.cell? ⟨p + 2, 1, none⟩ = some (.slice none 0 0) := by rw [kZ0.cell]; rfl
            have y2 : w7.cell? ⟨p + 2, 2, none⟩ = some (.slice none 0 0) := by rw [kZ0.cell]; rfl
            have f0 := kZ0.frozen 0
            have f1 := kZ0.frozen 1
            have f2 := kZ0.frozen 2
            have zZ := kZ0.lt
            go_simp
            refine hK.out _ _ ?_ (fun hHeld2 => ?_)
            · exact ((hHeld.set HP8.out 0 _).set HP8.out 1 _).set HP8.out 2 _
            clear hK K hHeld
            have hHeld := hHeld2
            clear hHeld2
            (try simp only [Act.put, List.setIfInBounds_toArray, List.set_cons_zero, List.set_cons_succ])
            refine reg_take (i := 9) (oi := _) (v := ?_) rfl (by kernel_rfl) (by kernel_rfl) (by kernel_rfl) (fun _ _ _ h => h) (by rfl) ?_ (by assumption) ?_
            rotate_left
            · intro w hSw; (try dsimp only at hSw); have a0 : w.cell? ⟨p + 1, 0, none⟩ = some (.int .i64 kind) := (by rw [hSw.1.cell]; rfl); have a1 : w.cell? ⟨p + 1, 1, none⟩ = some (.string name) := (by rw [hSw.1.cell]; rfl); have a2 : w.cell? ⟨p + 1, 2, none⟩ = some (.string dst) := (by rw [hSw.1.cell]; rfl); have a3 : w.cell? ⟨p + 1, 3, none⟩ = some (.string b) := (by rw [hSw.1.cell]; rfl); have a4 : w.cell? ⟨p + 1, 4, none⟩ = some (.int .i64 st) := (by rw [hSw.1.cell]; rfl); have a5 : w.cell? ⟨p + 1, 5, none⟩ = some (.int .i64 pt) := (by rw [hSw.1.cell]; rfl); have d0 : w.cell? ⟨p8, 0, none⟩ = some (.slice B1 l1 c1) := (by rw [hSw.2.cell]; rfl); have d1 : w.cell? ⟨p8, 1, none⟩ = some (.slice B2 l2 c2) := (by rw [hSw.2.cell]; rfl); have d2 : w.cell? ⟨p8, 2, none⟩ = some (.slice B3 l3 c3) := (by rw [hSw.2.cell]; rfl); have zA := hSw.1.lt; have zD := hSw.2.lt; go_simp; try with_reducible rfl
            (try simp only [Act.put, List.setIfInBounds_toArray, List.set_cons_zero, List.set_cons_succ])
            refine wpAnyH_done (by kernel_rfl) ?_ _
            refine NoPanic.normal ?_
            clear hHeld y0 y1 y2 f0 f1 f2 zZ
            go_wp2_with (fail)
            have kZ3 := ((kZ0.put 0 (.slice B1 l1 c1) rfl).put 1 (.slice B2 l2 c2) rfl).put 2 (.slice B3 l3 c3) rfl
            refine bodyPost_end (results_ct_row rfl _ _ (p + 2) _ _ _ _ rfl kZ3) rfl ⟨_, x9, by simp, both_end HD7.out HO7.out kZ0, ?_⟩
            exact fr_set3 HB7.out (by have := HBw.out; omega) (by rw [HP.out]; omega)
          exact AllReadyH.nil
        exact AllReadyH.nil
      exact AllReadyH.nil
    · by_cases m4 : m = 4
      · subst m4
        have HS0 := Lib.hid (show S4 p p kind name dst b st pt (.slice A1 x.now.length k1) (.slice A2 x.sure.length k2) (.slice A3 x.T.length k3) w1 from ⟨HKA.out, HKD.out⟩)
        have HBL := Lib.hid (show Fr B w w1 from ⟨HBZ.out.mono HBw.out, KeptY.below (by rw [HP.out]; exact HBZ.out)⟩)
        go_upto_region 9 with (fail)
        clear d0 d1 d2 a0 a1 a2 a3 a4 a5 zD zA
        refine wp_region_noPanic ?_
        refine wp_region_held_drew (S := (fun w' => S4 p p kind name dst b st pt (.slice A1 x.now.length k1) (.slice A2 x.sure.length k2) (.slice A3 x.T.length k3) w')) (by kernel_rfl) ?_ (fun hHeld => ?_)
        · exact HS0.out
        have bd : Below w1.heap.size w1 w1.drew := below_drewN (Below.refl w1.heap.size w1) 1
        have HZd := Lib.hid (HKZ.out.below bd)
        have HDd := Lib.hid (HD.out.below bd)
        have HOd := Lib.hid (HDV.out.kept (KeptY.below bd))
        have HBd := Lib.hid (show Fr B w w1.drew from HBL.out.trans (Fr.below HD.out.1.lo.2 bd))
        clear bd
        generalize w1.drew = wd at *
        refine reg_take (i := 0) (oi := _) (v := ?_) rfl (by kernel_rfl) (by kernel_rfl) (by kernel_rfl) (fun _ _ _ h => h) (by rfl) ?_ (by assumption) ?_
        rotate_left
        · intro w hSw; (try dsimp only at hSw); have a0 : w.cell? ⟨p + 1, 0, none⟩ = some (.int .i64 kind) := (by rw [hSw.1.cell]; rfl); have a1 : w.cell? ⟨p + 1, 1, none⟩ = some (.string name) := (by rw [hSw.1.cell]; rfl); have a2 : w.cell? ⟨p + 1, 2, none⟩ = some (.string dst) := (by rw [hSw.1.cell]; rfl); have a3 : w.cell? ⟨p + 1, 3, none⟩ = some (.string b) := (by rw [hSw.1.cell]; rfl); have a4 : w.cell? ⟨p + 1, 4, none⟩ = some (.int .i64 st) := (by rw [hSw.1.cell]; rfl); have a5 : w.cell? ⟨p + 1, 5, none⟩ = some (.int .i64 pt) := (by rw [hSw.1.cell]; rfl); have d0 : w.cell? ⟨p, 0, none⟩ = some (.slice A1 x.now.length k1) := (by rw [hSw.2.cell]; rfl); have d1 : w.cell? ⟨p, 1, none⟩ = some (.slice A2 x.sure.length k2) := (by rw [hSw.2.cell]; rfl); have d2 : w.cell? ⟨p, 2, none⟩ = some (.slice A3 x.T.length k3) := (by rw [hSw.2.cell]; rfl); have zA := hSw.1.lt; have zD := hSw.2.lt; go_simp; try with_reducible rfl
        (try simp only [Act.put, List.setIfInBounds_toArray, List.set_cons_zero, List.set_cons_succ])
        refine reg_take (i := 2) (oi := _) (v := ?_) rfl (by kernel_rfl) (by kernel_rfl) (by kernel_rfl) (fun _ _ _ h => h) (by rfl) ?_ (by assumption) ?_
        rotate_left
        · intro w hSw; (try dsimp only at hSw); have a0 : w.cell? ⟨p + 1, 0, none⟩ = some (.int .i64 kind) := (by rw [hSw.1.cell]; rfl); have a1 : w.cell? ⟨p + 1, 1, none⟩ = some (.string name) := (by rw [hSw.1.cell]; rfl); have a2 : w.cell? ⟨p + 1, 2, none⟩ = some (.string dst) := (by rw [hSw.1.cell]; rfl); have a3 : w.cell? ⟨p + 1, 3, none⟩ = some (.string b) := (by rw [hSw.1.cell]; rfl); have a4 : w.cell? ⟨p + 1, 4, none⟩ = some (.int .i64 st) := (by rw [hSw.1.cell]; rfl); have a5 : w.cell? ⟨p + 1, 5, none⟩ = some (.int .i64 pt) := (by rw [hSw.1.cell]; rfl); have d0 : w.cell? ⟨p, 0, none⟩ = some (.slice A1 x.now.length k1) := (by rw [hSw.2.cell]; rfl); have d1 : w.cell? ⟨p, 1, none⟩ = some (.slice A2 x.sure.length k2) := (by rw [hSw.2.cell]; rfl); have d2 : w.cell? ⟨p, 2, none⟩ = some (.slice A3 x.T.length k3) := (by rw [hSw.2.cell]; rfl); have zA := hSw.1.lt; have zD := hSw.2.lt; go_simp; try with_reducible rfl
        (try simp only [Act.put, List.setIfInBounds_toArray, List.set_cons_zero, List.set_cons_succ])
        refine wpAnyH_ready (rs := [1]) (by kernel_rfl) (by simp) ?_
        refine reg_each (o := _) rfl (fun K hK => ?_) ?_
        · skip
          go_simp
          refine (docsync_walk _ x wd HOd.out).mono ?_
          rintro q w6 ⟨vD, rfl, ⟨u1, u2, u3, rfl, g1, g2, g3⟩, hb6⟩
          have k6 := KeptY.below hb6
          have HZ6 := Lib.hid (HZd.out.below hb6)
          have HD6 := Lib.hid (HDd.out.below hb6)
          have HB6 := Lib.hid (HBd.out.trans (Fr.below HDd.out.1.lo.2 hb6))
          obtain ⟨B1, l1, c1, rfl⟩ : ∃ A l c, u1 = .slice A l c := by obtain ⟨A, c, e⟩ := g1.form; exact ⟨_, _, _, e⟩
          obtain ⟨B2, l2, c2, rfl⟩ : ∃ A l c, u2 = .slice A l c := by obtain ⟨A, c, e⟩ := g2.form; exact ⟨_, _, _, e⟩
          obtain ⟨B3, l3, c3, rfl⟩ : ∃ A l c, u3 = .slice A l c := by obtain ⟨A, c, e⟩ := g3.form; exact ⟨_, _, _, e⟩
          have HO6 := Lib.hid (show Doc w6 (.agg #[.slice B1 l1 c1, .slice B2 l2 c2, .slice B3 l3 c3]) ⟨x.now, x.now, []⟩ from ⟨_, _, _, rfl, g1, g2, g3⟩)
          have K6 := Lib.hid k6
          clear g1 g2 g3 k6 hb6
          go_wp2_with (fail)
          refine hK.out _ _ ?_ (fun hHeld2 => ?_)
          · exact hHeld.kept K6.out
          clear hK K hHeld
          have hHeld := hHeld2
          clear hHeld2
          (try simp only [Act.put, List.setIfInBounds_toArray, List.set_cons_zero, List.set_cons_succ])
          clear K6 HZd HDd HOd HBd
          refine wpAnyH_ready (rs := [3]) (by kernel_rfl) (by simp) ?_
          refine reg_each (o := _) rfl (fun K hK => ?_) ?_
          · skip
            go_simp
            refine (sync_ok B d x w6 HD6.out).mono ?_
            rintro q w7 ⟨rfl, ⟨x9, hx9, hd9⟩, hF9⟩
            have HZ7 := Lib.hid (blk_keptY HZ6.out hF9.2 (by decide) (by decide))
            have HD7 := Lib.hid hd9
            have HO7 := Lib.hid (show Doc w7 (.agg #[.slice B1 l1 c1, .slice B2 l2 c2, .slice B3 l3 c3]) x9 by rw [hx9]; exact HO6.out.kept hF9.2)
            have HB7 := Lib.hid (HB6.out.trans hF9)
            have K7 := Lib.hid hF9.2
            clear hF9 hd9 hx9
            rw [show errI 0 = .nilIface from rfl]
            go_wp2_with (fail)
            refine hK.out _ _ ?_ (fun hHeld2 => ?_)
            · exact hHeld.kept K7.out
            clear hK K hHeld
            have hHeld := hHeld2
            clear hHeld2
            (try simp only [Act.put, List.setIfInBounds_toArray, List.set_cons_zero, List.set_cons_succ])
            clear K7 HZ6 HD6 HO6 HB6
            refine reg_take (i := 4) (oi := _) (v := ?_) rfl (by kernel_rfl) (by kernel_rfl) (by kernel_rfl) (fun _ _ _ h => h) (by rfl) ?_ (by assumption) ?_
            rotate_left
            · intro w hSw; (try dsimp only at hSw); have a0 : w.cell? ⟨p + 1, 0, none⟩ = some (.int .i64 kind) := (by rw [hSw.1.cell]; rfl); have a1 : w.cell? ⟨p + 1, 1, none⟩ = some (.string name) := (by rw [hSw.1.cell]; rfl); have a2 : w.cell? ⟨p + 1, 2, none⟩ = some (.string dst) := (by rw [hSw.1.cell]; rfl); have a3 : w.cell? ⟨p + 1, 3, none⟩ = some (.string b) := (by rw [hSw.1.cell]; rfl); have a4 : w.cell? ⟨p + 1, 4, none⟩ = some (.int .i64 st) := (by rw [hSw.1.cell]; rfl); have a5 : w.cell? ⟨p + 1, 5, none⟩ = some (.int .i64 pt) := (by rw [hSw.1.cell]; rfl); have d0 : w.cell? ⟨p, 0, none⟩ = some (.slice A1 x.now.length k1) := (by rw [hSw.2.cell]; rfl); have d1 : w.cell? ⟨p, 1, none⟩ = some (.slice A2 x.sure.length k2) := (by rw [hSw.2.cell]; rfl); have d2 : w.cell? ⟨p, 2, none⟩ = some (.slice A3 x.T.length k3) := (by rw [hSw.2.cell]; rfl); have zA := hSw.1.lt; have zD := hSw.2.lt; go_simp; try with_reducible rfl
            (try simp only [Act.put, List.setIfInBounds_toArray, List.set_cons_zero, List.set_cons_succ])
            refine wpAnyH_ready (rs := [5]) (by kernel_rfl) (by simp) ?_
            refine reg_each (o := _) rfl (fun K hK => ?_) ?_
            · skip
              have kZ0 := HZ7.out
              have y0 : w7.cell? ⟨p + 2, 0, none⟩ = some (.slice none 0 0) := by rw [kZ0.cell]; rfl
              have y1 : w7.cell? ⟨p + 2, 1, none⟩ = some (.slice none 0 0) := by rw [kZ0.cell]; rfl
              have y2 : w7.cell? ⟨p + 2, 2, none⟩ = some (.slice none 0 0) := by rw [kZ0.cell]; rfl
              have f0 := kZ0.frozen 0
              have f1 := kZ0.frozen 1
              have f2 := kZ0.frozen 2
              have zZ := kZ0.lt
              go_simp
              refine hK.out _ _ ?_ (fun hHeld2 => ?_)
              · exact ((hHeld.set (by omega) 0 _).set (by omega) 1 _).set (by omega) 2 _
              clear hK K hHeld
              have hHeld := hHeld2
              clear hHeld2
              (try simp only [Act.put, List.setIfInBounds_toArray, List.set_cons_zero, List.set_cons_succ])
              refine reg_take (i := 6) (oi := _) (v := ?_) rfl (by kernel_rfl) (by kernel_rfl) (by kernel_rfl) (fun _ _ _ h => h) (by rfl) ?_ (by assumption) ?_
              rotate_left
              · intro w hSw; (try dsimp only at hSw); have a0 : w.cell? ⟨p + 1, 0, none⟩ = some (.int .i64 kind) := (by rw [hSw.1.cell]; rfl); have a1 : w.cell? ⟨p + 1, 1, none⟩ = some (.string name) := (by rw [hSw.1.cell]; rfl); have a2 : w.cell? ⟨p + 1, 2, none⟩ = some (.string dst) := (by rw [hSw.1.cell]; rfl); have a3 : w.cell? ⟨p + 1, 3, none⟩ = some (.string b) := (by rw [hSw.1.cell]; rfl); have a4 : w.cell? ⟨p + 1, 4, none⟩ = some (.int .i64 st) := (by rw [hSw.1.cell]; rfl); have a5 : w.cell? ⟨p + 1, 5, none⟩ = some (.int .i64 pt) := (by rw [hSw.1.cell]; rfl); have d0 : w.cell? ⟨p, 0, none⟩ = some (.slice A1 x.now.length k1) := (by rw [hSw.2.cell]; rfl); have d1 : w.cell? ⟨p, 1, none⟩ = some (.slice A2 x.sure.length k2) := (by rw [hSw.2.cell]; rfl); have d2 : w.cell? ⟨p, 2, none⟩ = some (.slice A3 x.T.length k3) := (by rw [hSw.2.cell]; rfl); have zA := hSw.1.lt; have zD := hSw.2.lt; go_simp; try with_reducible rfl
              (try simp only [Act.put, List.setIfInBounds_toArray, List.set_cons_zero, List.set_cons_succ])
              refine wpAnyH_done (by kernel_rfl) ?_ _
              refine NoPanic.normal ?_
              clear hHeld y0 y1 y2 f0 f1 f2 zZ
              go_wp2_with (fail)
              have kZ3 := ((kZ0.put 0 (.slice B1 l1 c1) rfl).put 1 (.slice B2 l2 c2) rfl).put 2 (.slice B3 l3 c3) rfl
              refine bodyPost_end (results_ct_row rfl _ _ (p + 2) _ _ _ _ rfl kZ3) rfl ⟨_, x9, by simp, both_end HD7.out HO7.out kZ0, ?_⟩
              exact fr_set3 HB7.out (by have := HBw.out; omega) (by rw [HP.out]; omega)
            exact AllReadyH.nil
          exact AllReadyH.nil
        exact AllReadyH.nil
      · by_cases m5 : m = 5
        · subst m5
          have PC := Lib.hid (crash_both B d x st pt s0 s1 p0 p1)
          have DW := doccrash_walk _ x st pt w1 HDV.out HD.out.2 hT s0 s1 p0 p1
          generalize hTX : CrashR x st pt = TX at *
          go_upto_region 11 with (fail)
          go_wp2_with (fail)
          refine Calls.mono DW ?_
          rintro y w2 ⟨vD, rfl, hdoc, hb2⟩
          obtain ⟨u1, u2, u3, rfl, g1, g2, g3⟩ := hdoc
          obtain ⟨B1, l1, c1, rfl⟩ : ∃ A l c, u1 = .slice A l c := by obtain ⟨A, c, e⟩ := g1.form; exact ⟨_, _, _, e⟩
          obtain ⟨B2, l2, c2, rfl⟩ : ∃ A l c, u2 = .slice A l c := by obtain ⟨A, c, e⟩ := g2.form; exact ⟨_, _, _, e⟩
          obtain ⟨B3, l3, c3, rfl⟩ : ∃ A l c, u3 = .slice A l c := by obtain ⟨A, c, e⟩ := g3.form; exact ⟨_, _, _, e⟩
          have hb3 := (Below.refl w2.heap.size w2).alloc (Nat.le_refl _) (.cells #[.slice B1 l1 c1, .slice B2 l2 c2, .slice B3 l3 c3] 41)
          have hb23 := below_trans hb2 hb3
          have hN8 := Blk.new w2 41 #[.slice B1 l1 c1, .slice B2 l2 c2, .slice B3 l3 c3]
          have HDOC := Lib.hid (show Doc (w2.alloc (.cells #[.slice B1 l1 c1, .slice B2 l2 c2, .slice B3 l3 c3] 41)) (.agg #[.slice B1 l1 c1, .slice B2 l2 c2, .slice B3 l3 c3]) TX from ⟨_, _, _, rfl, g1.kept (KeptY.below hb3), g2.kept (KeptY.below hb3), g3.kept (KeptY.below hb3)⟩)
          have HS0 := Lib.hid (show S4 p w2.heap.size kind name dst b st pt (.slice B1 l1 c1) (.slice B2 l2 c2) (.slice B3 l3 c3) (w2.alloc (.cells #[.slice B1 l1 c1, .slice B2 l2 c2, .slice B3 l3 c3] 41)) from ⟨HKA.out.below hb23, hN8⟩)
          have HZ := Lib.hid (HKZ.out.below hb23)
          have HDK := Lib.hid (HD.out.below hb23)
          have HGE := Lib.hid (HG.out.below hb23)
          have HP8 := Lib.hid (show w2.heap.size ≠ p + 2 by have := HKZ.out.below hb2; have := this.lt; omega)
          have HBL := Lib.hid (show Fr B w (w2.alloc (.cells #[.slice B1 l1 c1, .slice B2 l2 c2, .slice B3 l3 c3] 41)) from ⟨(HBZ.out.mono HBw.out).trans (hb23.mono (by have := HKD.out.lt; have := HBw.out; omega)), (KeptY.below (by rw [HP.out]; exact HBZ.out)).trans (KeptY.below hb23)⟩)
          clear DW g1 g2 g3 hb2 hb3 hb23 hN8 hTX d0 d1 d2 a0 a1 a2 a3 a4 a5 zD zA
          go_upto_region 12 with (fail)
          generalize w2.alloc (Obj.cells #[.slice B1 l1 c1, .slice B2 l2 c2, .slice B3 l3 c3] 41) = w3 at *
          generalize w2.heap.size = p8 at *
          refine wp_region_noPanic ?_
          refine wp_region_held_drew (S := (fun w' => S4 p p8 kind name dst b st pt (.slice B1 l1 c1) (.slice B2 l2 c2) (.slice B3 l3 c3) w')) (by kernel_rfl) ?_ (fun hHeld => ?_)
          · exact HS0.out
          have bd : Below w3.heap.size w3 w3.drew := below_drewN (Below.refl w3.heap.size w3) 1
          have HZd := Lib.hid (HZ.out.below bd)
          have HDd := Lib.hid (HDK.out.below bd)
          have HGd := Lib.hid (HGE.out.below bd)
          have HOd := Lib.hid (HDOC.out.kept (KeptY.below bd))
          have HBd := Lib.hid (show Fr B w w3.drew from HBL.out.trans (Fr.below HDK.out.1.lo.2 bd))
          clear bd
          skip
          generalize w3.drew = wd at *
          refine reg_take (i := 0) (oi := _) (v := ?_) rfl (by kernel_rfl) (by kernel_rfl) (by kernel_rfl) (fun _ _ _ h => h) (by rfl) ?_ (by assumption) ?_
          rotate_left
          · intro w hSw; (try dsimp only at hSw); have a0 : w.cell? ⟨p + 1, 0, none⟩ = some (.int .i64 kind) := (by rw [hSw.1.cell]; rfl); have a1 : w.cell? ⟨p + 1, 1, none⟩ = some (.string name) := (by rw [hSw.1.cell]; rfl); have a2 : w.cell? ⟨p + 1, 2, none⟩ = some (.string dst) := (by rw [hSw.1.cell]; rfl); have a3 : w.cell? ⟨p + 1, 3, none⟩ = some (.string b) := (by rw [hSw.1.cell]; rfl); have a4 : w.cell? ⟨p + 1, 4, none⟩ = some (.int .i64 st) := (by rw [hSw.1.cell]; rfl); have a5 : w.cell? ⟨p + 1, 5, none⟩ = some (.int .i64 pt) := (by rw [hSw.1.cell]; rfl); have d0 : w.cell? ⟨p8, 0, none⟩ = some (.slice B1 l1 c1) := (by rw [hSw.2.cell]; rfl); have d1 : w.cell? ⟨p8, 1, none⟩ = some (.slice B2 l2 c2) := (by rw [hSw.2.cell]; rfl); have d2 : w.cell? ⟨p8, 2, none⟩ = some (.slice B3 l3 c3) := (by rw [hSw.2.cell]; rfl); have zA := hSw.1.lt; have zD := hSw.2.lt; go_simp; try with_reducible rfl
          (try simp only [Act.put, List.setIfInBounds_toArray, List.set_cons_zero, List.set_cons_succ])
          refine reg_take (i := 1) (oi := _) (v := ?_) rfl (by kernel_rfl) (by kernel_rfl) (by kernel_rfl) (fun _ _ _ h => h) (by rfl) ?_ (by assumption) ?_
          rotate_left
          · intro w hSw; (try dsimp only at hSw); have a0 : w.cell? ⟨p + 1, 0, none⟩ = some (.int .i64 kind) := (by rw [hSw.1.cell]; rfl); have a1 : w.cell? ⟨p + 1, 1, none⟩ = some (.string name) := (by rw [hSw.1.cell]; rfl); have a2 : w.cell? ⟨p + 1, 2, none⟩ = some (.string dst) := (by rw [hSw.1.cell]; rfl); have a3 : w.cell? ⟨p + 1, 3, none⟩ = some (.string b) := (by rw [hSw.1.cell]; rfl); have a4 : w.cell? ⟨p + 1, 4, none⟩ = some (.int .i64 st) := (by rw [hSw.1.cell]; rfl); have a5 : w.cell? ⟨p + 1, 5, none⟩ = some (.int .i64 pt) := (by rw [hSw.1.cell]; rfl); have d0 : w.cell? ⟨p8, 0, none⟩ = some (.slice B1 l1 c1) := (by rw [hSw.2.cell]; rfl); have d1 : w.cell? ⟨p8, 1, none⟩ = some (.slice B2 l2 c2) := (by rw [hSw.2.cell]; rfl); have d2 : w.cell? ⟨p8, 2, none⟩ = some (.slice B3 l3 c3) := (by rw [hSw.2.cell]; rfl); have zA := hSw.1.lt; have zD := hSw.2.lt; go_simp; try with_reducible rfl
          (try simp only [Act.put, List.setIfInBounds_toArray, List.set_cons_zero, List.set_cons_succ])
          refine reg_take (i := 2) (oi := _) (v := ?_) rfl (by kernel_rfl) (by kernel_rfl) (by kernel_rfl) (fun _ _ _ h => h) (by rfl) ?_ (by assumption) ?_
          rotate_left
          · intro w hSw; (try dsimp only at hSw); have a0 : w.cell? ⟨p + 1, 0, none⟩ = some (.int .i64 kind) := (by rw [hSw.1.cell]; rfl); have a1 : w.cell? ⟨p + 1, 1, none⟩ = some (.string name) := (by rw [hSw.1.cell]; rfl); have a2 : w.cell? ⟨p + 1, 2, none⟩ = some (.string dst) := (by rw [hSw.1.cell]; rfl); have a3 : w.cell? ⟨p + 1, 3, none⟩ = some (.string b) := (by rw [hSw.1.cell]; rfl); have a4 : w.cell? ⟨p + 1, 4, none⟩ = some (.int .i64 st) := (by rw [hSw.1.cell]; rfl); have a5 : w.cell? ⟨p + 1, 5, none⟩ = some (.int .i64 pt) := (by rw [hSw.1.cell]; rfl); have d0 : w.cell? ⟨p8, 0, none⟩ = some (.slice B1 l1 c1) := (by rw [hSw.2.cell]; rfl); have d1 : w.cell? ⟨p8, 1, none⟩ = some (.slice B2 l2 c2) := (by rw [hSw.2.cell]; rfl); have d2 : w.cell? ⟨p8, 2, none⟩ = some (.slice B3 l3 c3) := (by rw [hSw.2.cell]; rfl); have zA := hSw.1.lt; have zD := hSw.2.lt; go_simp; try with_reducible rfl
          (try simp only [Act.put, List.setIfInBounds_toArray, List.set_cons_zero, List.set_cons_succ])
          refine reg_take (i := 3) (oi := _) (v := ?_) rfl (by kernel_rfl) (by kernel_rfl) (by kernel_rfl) (fun _ _ _ h => h) (by rfl) ?_ (by assumption) ?_
          rotate_left
          · intro w hSw; (try dsimp only at hSw); have a0 : w.cell? ⟨p + 1, 0, none⟩ = some (.int .i64 kind) := (by rw [hSw.1.cell]; rfl); have a1 : w.cell? ⟨p + 1, 1, none⟩ = some (.string name) := (by rw [hSw.1.cell]; rfl); have a2 : w.cell? ⟨p + 1, 2, none⟩ = some (.string dst) := (by rw [hSw.1.cell]; rfl); have a3 : w.cell? ⟨p + 1, 3, none⟩ = some (.string b) := (by rw [hSw.1.cell]; rfl); have a4 : w.cell? ⟨p + 1, 4, none⟩ = some (.int .i64 st) := (by rw [hSw.1.cell]; rfl); have a5 : w.cell? ⟨p + 1, 5, none⟩ = some (.int .i64 pt) := (by rw [hSw.1.cell]; rfl); have d0 : w.cell? ⟨p8, 0, none⟩ = some (.slice B1 l1 c1) := (by rw [hSw.2.cell]; rfl); have d1 : w.cell? ⟨p8, 1, none⟩ = some (.slice B2 l2 c2) := (by rw [hSw.2.cell]; rfl); have d2 : w.cell? ⟨p8, 2, none⟩ = some (.slice B3 l3 c3) := (by rw [hSw.2.cell]; rfl); have zA := hSw.1.lt; have zD := hSw.2.lt; go_simp; try with_reducible rfl
          (try simp only [Act.put, List.setIfInBounds_toArray, List.set_cons_zero, List.set_cons_succ])
          refine reg_take (i := 4) (oi := _) (v := ?_) rfl (by kernel_rfl) (by kernel_rfl) (by kernel_rfl) (fun _ _ _ h => h) (by rfl) ?_ (by assumption) ?_
          rotate_left
          · intro w hSw; (try dsimp only at hSw); have a0 : w.cell? ⟨p + 1, 0, none⟩ = some (.int .i64 kind) := (by rw [hSw.1.cell]; rfl); have a1 : w.cell? ⟨p + 1, 1, none⟩ = some (.string name) := (by rw [hSw.1.cell]; rfl); have a2 : w.cell? ⟨p + 1, 2, none⟩ = some (.string dst) := (by rw [hSw.1.cell]; rfl); have a3 : w.cell? ⟨p + 1, 3, none⟩ = some (.string b) := (by rw [hSw.1.cell]; rfl); have a4 : w.cell? ⟨p + 1, 4, none⟩ = some (.int .i64 st) := (by rw [hSw.1.cell]; rfl); have a5 : w.cell? ⟨p + 1, 5, none⟩ = some (.int .i64 pt) := (by rw [hSw.1.cell]; rfl); have d0 : w.cell? ⟨p8, 0, none⟩ = some (.slice B1 l1 c1) := (by rw [hSw.2.cell]; rfl); have d1 : w.cell? ⟨p8, 1, none⟩ = some (.slice B2 l2 c2) := (by rw [hSw.2.cell]; rfl); have d2 : w.cell? ⟨p8, 2, none⟩ = some (.slice B3 l3 c3) := (by rw [hSw.2.cell]; rfl); have zA := hSw.1.lt; have zD := hSw.2.lt; go_simp; try with_reducible rfl
          (try simp only [Act.put, List.setIfInBounds_toArray, List.set_cons_zero, List.set_cons_succ])
          refine reg_take (i := 5) (oi := _) (v := ?_) rfl (by kernel_rfl) (by kernel_rfl) (by kernel_rfl) (fun _ _ _ h => h) (by rfl) ?_ (by assumption) ?_
          rotate_left
          · intro w hSw; (try dsimp only at hSw); have a0 : w.cell? ⟨p + 1, 0, none⟩ = some (.int .i64 kind) := (by rw [hSw.1.cell]; rfl); have a1 : w.cell? ⟨p + 1, 1, none⟩ = some (.string name) := (by rw [hSw.1.cell]; rfl); have a2 : w.cell? ⟨p + 1, 2, none⟩ = some (.string dst) := (by rw [hSw.1.cell]; rfl); have a3 : w.cell? ⟨p + 1, 3, none⟩ = some (.string b) := (by rw [hSw.1.cell]; rfl); have a4 : w.cell? ⟨p + 1, 4, none⟩ = some (.int .i64 st) := (by rw [hSw.1.cell]; rfl); have a5 : w.cell? ⟨p + 1, 5, none⟩ = some (.int .i64 pt) := (by rw [hSw.1.cell]; rfl); have d0 : w.cell? ⟨p8, 0, none⟩ = some (.slice B1 l1 c1) := (by rw [hSw.2.cell]; rfl); have d1 : w.cell? ⟨p8, 1, none⟩ = some (.slice B2 l2 c2) := (by rw [hSw.2.cell]; rfl); have d2 : w.cell? ⟨p8, 2, none⟩ = some (.slice B3 l3 c3) := (by rw [hSw.2.cell]; rfl); have zA := hSw.1.lt; have zD := hSw.2.lt; go_simp; try with_reducible rfl
          (try simp only [Act.put, List.setIfInBounds_toArray, List.set_cons_zero, List.set_cons_succ])
          refine reg_take (i := 8) (oi := _) (v := ?_) rfl (by kernel_rfl) (by kernel_rfl) (by kernel_rfl) (fun _ _ _ h => h) (by rfl) ?_ (by assumption) ?_
          rotate_left
          · intro w hSw; (try dsimp only at hSw); have a0 : w.cell? ⟨p + 1, 0, none⟩ = some (.int .i64 kind) := (by rw [hSw.1.cell]; rfl); have a1 : w.cell? ⟨p + 1, 1, none⟩ = some (.string name) := (by rw [hSw.1.cell]; rfl); have a2 : w.cell? ⟨p + 1, 2, none⟩ = some (.string dst) := (by rw [hSw.1.cell]; rfl); have a3 : w.cell? ⟨p + 1, 3, none⟩ = some (.string b) := (by rw [hSw.1.cell]; rfl); have a4 : w.cell? ⟨p + 1, 4, none⟩ = some (.int .i64 st) := (by rw [hSw.1.cell]; rfl); have a5 : w.cell? ⟨p + 1, 5, none⟩ = some (.int .i64 pt) := (by rw [hSw.1.cell]; rfl); have d0 : w.cell? ⟨p8, 0, none⟩ = some (.slice B1 l1 c1) := (by rw [hSw.2.cell]; rfl); have d1 : w.cell? ⟨p8, 1, none⟩ = some (.slice B2 l2 c2) := (by rw [hSw.2.cell]; rfl); have d2 : w.cell? ⟨p8, 2, none⟩ = some (.slice B3 l3 c3) := (by rw [hSw.2.cell]; rfl); have zA := hSw.1.lt; have zD := hSw.2.lt; go_simp; try with_reducible rfl
          (try simp only [Act.put, List.setIfInBounds_toArray, List.set_cons_zero, List.set_cons_succ])
          refine wpAnyH_ready (rs := [6]) (by kernel_rfl) (by simp) ?_
          refine reg_each (o := _) rfl (fun K hK => ?_) ?_
          · skip
            go_simp
            refine (PC.out _ HDd.out).mono ?_
            rintro q w6 ⟨rfl, ⟨x9, hx9, hd9⟩, hF9⟩
            have HZ6 := Lib.hid (blk_keptY HZd.out hF9.2 (by decide) (by decide))
            have HD6 := Lib.hid hd9
            have HO6 := Lib.hid (hx9 _ _ (HOd.out.kept hF9.2))
            have HB6 := Lib.hid (HBd.out.trans hF9)
            have HG6 := Lib.hid (show ErrType w6 from (hF9.1.cell (p := ⟨0, 0, none⟩) hB0).trans HGd.out)
            have K6 := Lib.hid hF9.2
            clear hF9 hd9 hx9
            go_wp2_with (fail)
            refine hK.out _ _ ?_ (fun hHeld2 => ?_)
            · exact hHeld.kept K6.out
            clear hK K hHeld
            have hHeld := hHeld2
            clear hHeld2
            (try simp only [Act.put, List.setIfInBounds_toArray, List.set_cons_zero, List.set_cons_succ])
            clear K6 PC HZd HDd HGd HOd HBd
            refine wpAnyH_ready (rs := [7]) (by kernel_rfl) (by simp) ?_
            refine reg_each (o := _) rfl (fun K hK => ?_) ?_
            · skip
              go_simp
              refine (num_errI _ _ HG6.out).mono ?_
              rintro q w7 ⟨rfl, hb7⟩
              have k7 := KeptY.below hb7
              have HZ7 := Lib.hid (HZ6.out.below hb7)
              have HD7 := Lib.hid (HD6.out.below hb7)
              have HO7 := Lib.hid (HO6.out.kept k7)
              have HB7 := Lib.hid (HB6.out.trans (Fr.below HD6.out.1.lo.2 hb7))
              have K7 := Lib.hid k7
              clear hb7 k7
              go_wp2_with (fail)
              refine hK.out _ _ ?_ (fun hHeld2 => ?_)
              · exact hHeld.kept K7.out
              clear hK K hHeld
              have hHeld := hHeld2
              clear hHeld2
              (try simp only [Act.put, List.setIfInBounds_toArray, List.set_cons_zero, List.set_cons_succ])
              clear HZ6 HD6 HO6 HB6 HG6 K7
              refine reg_take (i := 9) (oi := _) (v := ?_) rfl (by kernel_rfl) (by kernel_rfl) (by kernel_rfl) (fun _ _ _ h => h) (by rfl) ?_ (by assumption) ?_
              rotate_left
              · intro w hSw; (try dsimp only at hSw); have a0 : w.cell? ⟨p + 1, 0, none⟩ = some (.int .i64 kind) := (by rw [hSw.1.cell]; rfl); have a1 : w.cell? ⟨p + 1, 1, none⟩ = some (.string name) := (by rw [hSw.1.cell]; rfl); have a2 : w.cell? ⟨p + 1, 2, none⟩ = some (.string dst) := (by rw [hSw.1.cell]; rfl); have a3 : w.cell? ⟨p + 1, 3, none⟩ = some (.string b) := (by rw [hSw.1.cell]; rfl); have a4 : w.cell? ⟨p + 1, 4, none⟩ = some (.int .i64 st) := (by rw [hSw.1.cell]; rfl); have a5 : w.cell? ⟨p + 1, 5, none⟩ = some (.int .i64 pt) := (by rw [hSw.1.cell]; rfl); have d0 : w.cell? ⟨p8, 0, none⟩ = some (.slice B1 l1 c1) := (by rw [hSw.2.cell]; rfl); have d1 : w.cell? ⟨p8, 1, none⟩ = some (.slice B2 l2 c2) := (by rw [hSw.2.cell]; rfl); have d2 : w.cell? ⟨p8, 2, none⟩ = some (.slice B3 l3 c3) := (by rw [hSw.2.cell]; rfl); have zA := hSw.1.lt; have zD := hSw.2.lt; go_simp; try with_reducible rfl
              (try simp only [Act.put, List.setIfInBounds_toArray, List.set_cons_zero, List.set_cons_succ])
              refine wpAnyH_ready (rs := [10]) (by kernel_rfl) (by simp) ?_
              refine reg_each (o := _) rfl (fun K hK => ?_) ?_
              · skip
                have kZ0 := HZ7.out
                have y0 : w7.cell? ⟨p + 2, 0, none⟩ = some (.slice none 0 0) := by rw [kZ0.cell]; rfl
                have y1 : w7.cell? ⟨p + 2, 1, none⟩ = some (.slice none 0 0) := by rw [kZ0.cell]; rfl
                have y2 : w7.cell? ⟨p + 2, 2, none⟩ = some (.slice none 0 0) := by rw [kZ0.cell]; rfl
                have f0 := kZ0.frozen 0
                have f1 := kZ0.frozen 1
                have f2 := kZ0.frozen 2
                have zZ := kZ0.lt
                go_simp
                refine hK.out _ _ ?_ (fun hHeld2 => ?_)
                · exact ((hHeld.set HP8.out 0 _).set HP8.out 1 _).set HP8.out 2 _
                clear hK K hHeld
                have hHeld := hHeld2
                clear hHeld2
                (try simp only [Act.put, List.setIfInBounds_toArray, List.set_cons_zero, List.set_cons_succ])
                refine reg_take (i := 11) (oi := _) (v := ?_) rfl (by kernel_rfl) (by kernel_rfl) (by kernel_rfl) (fun _ _ _ h => h) (by rfl) ?_ (by assumption) ?_
                rotate_left
                · intro w hSw; (try dsimp only at hSw); have a0 : w.cell? ⟨p + 1, 0, none⟩ = some (.int .i64 kind) := (by rw [hSw.1.cell]; rfl); have a1 : w.cell? ⟨p + 1, 1, none⟩ = some (.string name) := (by rw [hSw.1.cell]; rfl); have a2 : w.cell? ⟨p + 1, 2, none⟩ = some (.string dst) := (by rw [hSw.1.cell]; rfl); have a3 : w.cell? ⟨p + 1, 3, none⟩ = some (.string b) := (by rw [hSw.1.cell]; rfl); have a4 : w.cell? ⟨p + 1, 4, none⟩ = some (.int .i64 st) := (by rw [hSw.1.cell]; rfl); have a5 : w.cell? ⟨p + 1, 5, none⟩ = some (.int .i64 pt) := (by rw [hSw.1.cell]; rfl); have d0 : w.cell? ⟨p8, 0, none⟩ = some (.slice B1 l1 c1) := (by rw [hSw.2.cell]; rfl); have d1 : w.cell? ⟨p8, 1, none⟩ = some (.slice B2 l2 c2) := (by rw [hSw.2.cell]; rfl); have d2 : w.cell? ⟨p8, 2, none⟩ = some (.slice B3 l3 c3) := (by rw [hSw.2.cell]; rfl); have zA := hSw.1.lt; have zD := hSw.2.lt; go_simp; try with_reducible rfl
                (try simp only [Act.put, List.setIfInBounds_toArray, List.set_cons_zero, List.set_cons_succ])
                refine wpAnyH_done (by kernel_rfl) ?_ _
                refine NoPanic.normal ?_
                clear hHeld y0 y1 y2 f0 f1 f2 zZ
                go_wp2_with (fail)
                have kZ3 := ((kZ0.put 0 (.slice B1 l1 c1) rfl).put 1 (.slice B2 l2 c2) rfl).put 2 (.slice B3 l3 c3) rfl
                refine bodyPost_end (results_ct_row rfl _ _ (p + 2) _ _ _ _ rfl kZ3) rfl ⟨_, x9, by simp, both_end HD7.out HO7.out kZ0, ?_⟩
                exact fr_set3 HB7.out (by have := HBw.out; omega) (by rw [HP.out]; omega)
              exact AllReadyH.nil
            exact AllReadyH.nil
          exact AllReadyH.nil
        · skip
          have PC := Lib.hid (fun (w' : World) (vv : Value) (h : DiskOk w' B d x) (hv : RdY w' vv b.data.toList) => write_both B d x name b.data.toList vv hb63 w' h hv)
          have DW := doctry_walk _ x name.data.toList [] b.data.toList (.slice none 0 0) true false w1 HDV.out hF64 hT hn63 (by simp)
          generalize hTX : TryX x name.data.toList [] b.data.toList (.slice none 0 0) true false = TX at *
          go_upto_region 13 with (fail)
          go_wp2_with (fail)
          refine Calls.mono DW ?_
          rintro y w2 ⟨vD, rfl, hdoc, hb2⟩
          obtain ⟨u1, u2, u3, rfl, g1, g2, g3⟩ := hdoc
          obtain ⟨B1, l1, c1, rfl⟩ : ∃ A l c, u1 = .slice A l c := by obtain ⟨A, c, e⟩ := g1.form; exact ⟨_, _, _, e⟩
          obtain ⟨B2, l2, c2, rfl⟩ : ∃ A l c, u2 = .slice A l c := by obtain ⟨A, c, e⟩ := g2.form; exact ⟨_, _, _, e⟩
          obtain ⟨B3, l3, c3, rfl⟩ : ∃ A l c, u3 = .slice A l c := by obtain ⟨A, c, e⟩ := g3.form; exact ⟨_, _, _, e⟩
          have hb3 := (Below.refl w2.heap.size w2).alloc (Nat.le_refl _) (.cells #[.slice B1 l1 c1, .slice B2 l2 c2, .slice B3 l3 c3] 41)
          have hb23 := below_trans hb2 hb3
          have hN8 := Blk.new w2 41 #[.slice B1 l1 c1, .slice B2 l2 c2, .slice B3 l3 c3]
          have HDOC := Lib.hid (show Doc (w2.alloc (.cells #[.slice B1 l1 c1, .slice B2 l2 c2, .slice B3 l3 c3] 41)) (.agg #[.slice B1 l1 c1, .slice B2 l2 c2, .slice B3 l3 c3]) TX from ⟨_, _, _, rfl, g1.kept (KeptY.below hb3), g2.kept (KeptY.below hb3), g3.kept (KeptY.below hb3)⟩)
          have HS0 := Lib.hid (show S4 p w2.heap.size kind name dst b st pt (.slice B1 l1 c1) (.slice B2 l2 c2) (.slice B3 l3 c3) (w2.alloc (.cells #[.slice B1 l1 c1, .slice B2 l2 c2, .slice B3 l3 c3] 41)) from ⟨HKA.out.below hb23, hN8⟩)
          have HZ := Lib.hid (HKZ.out.below hb23)
          have HDK := Lib.hid (HD.out.below hb23)
          have HGE := Lib.hid (HG.out.below hb23)
          have HP8 := Lib.hid (show w2.heap.size ≠ p + 2 by have := HKZ.out.below hb2; have := this.lt; omega)
          have HBL := Lib.hid (show Fr B w (w2.alloc (.cells #[.slice B1 l1 c1, .slice B2 l2 c2, .slice B3 l3 c3] 41)) from ⟨(HBZ.out.mono HBw.out).trans (hb23.mono (by have := HKD.out.lt; have := HBw.out; omega)), (KeptY.below (by rw [HP.out]; exact HBZ.out)).trans (KeptY.below hb23)⟩)
          clear DW g1 g2 g3 hb2 hb3 hb23 hN8 hTX d0 d1 d2 a0 a1 a2 a3 a4 a5 zD zA
          go_upto_region 14 with (fail)
          generalize w2.alloc (Obj.cells #[.slice B1 l1 c1, .slice B2 l2 c2, .slice B3 l3 c3] 41) = w3 at *
          generalize w2.heap.size = p8 at *
          refine wp_region_noPanic ?_
          refine wp_region_held_drew (S := (fun w' => S4 p p8 kind name dst b st pt (.slice B1 l1 c1) (.slice B2 l2 c2) (.slice B3 l3 c3) w')) (by kernel_rfl) ?_ (fun hHeld => ?_)
          · exact HS0.out
          have bd : Below w3.heap.size w3 w3.drew := below_drewN (Below.refl w3.heap.size w3) 1
          have HZd := Lib.hid (HZ.out.below bd)
          have HDd := Lib.hid (HDK.out.below bd)
          have HGd := Lib.hid (HGE.out.below bd)
          have HOd := Lib.hid (HDOC.out.kept (KeptY.below bd))
          have HBd := Lib.hid (show Fr B w w3.drew from HBL.out.trans (Fr.below HDK.out.1.lo.2 bd))
          clear bd
          skip
          generalize w3.drew = wd at *
          refine reg_take (i := 0) (oi := _) (v := ?_) rfl (by kernel_rfl) (by kernel_rfl) (by kernel_rfl) (fun _ _ _ h => h) (by rfl) ?_ (by assumption) ?_
          rotate_left
          · intro w hSw; (try dsimp only at hSw); have a0 : w.cell? ⟨p + 1, 0, none⟩ = some (.int .i64 kind) := (by rw [hSw.1.cell]; rfl); have a1 : w.cell? ⟨p + 1, 1, none⟩ = some (.string name) := (by rw [hSw.1.cell]; rfl); have a2 : w.cell? ⟨p + 1, 2, none⟩ = some (.string dst) := (by rw [hSw.1.cell]; rfl); have a3 : w.cell? ⟨p + 1, 3, none⟩ = some (.string b) := (by rw [hSw.1.cell]; rfl); have a4 : w.cell? ⟨p + 1, 4, none⟩ = some (.int .i64 st) := (by rw [hSw.1.cell]; rfl); have a5 : w.cell? ⟨p + 1, 5, none⟩ = some (.int .i64 pt) := (by rw [hSw.1.cell]; rfl); have d0 : w.cell? ⟨p8, 0, none⟩ = some (.slice B1 l1 c1) := (by rw [hSw.2.cell]; rfl); have d1 : w.cell? ⟨p8, 1, none⟩ = some (.slice B2 l2 c2) := (by rw [hSw.2.cell]; rfl); have d2 : w.cell? ⟨p8, 2, none⟩ = some (.slice B3 l3 c3) := (by rw [hSw.2.cell]; rfl); have zA := hSw.1.lt; have zD := hSw.2.lt; go_simp; try with_reducible rfl
          (try simp only [Act.put, List.setIfInBounds_toArray, List.set_cons_zero, List.set_cons_succ])
          refine reg_take (i := 1) (oi := _) (v := ?_) rfl (by kernel_rfl) (by kernel_rfl) (by kernel_rfl) (fun _ _ _ h => h) (by rfl) ?_ (by assumption) ?_
          rotate_left
          · intro w hSw; (try dsimp only at hSw); have a0 : w.cell? ⟨p + 1, 0, none⟩ = some (.int .i64 kind) := (by rw [hSw.1.cell]; rfl); have a1 : w.cell? ⟨p + 1, 1, none⟩ = some (.string name) := (by rw [hSw.1.cell]; rfl); have a2 : w.cell? ⟨p + 1, 2, none⟩ = some (.string dst) := (by rw [hSw.1.cell]; rfl); have a3 : w.cell? ⟨p + 1, 3, none⟩ = some (.string b) := (by rw [hSw.1.cell]; rfl); have a4 : w.cell? ⟨p + 1, 4, none⟩ = some (.int .i64 st) := (by rw [hSw.1.cell]; rfl); have a5 : w.cell? ⟨p + 1, 5, none⟩ = some (.int .i64 pt) := (by rw [hSw.1.cell]; rfl); have d0 : w.cell? ⟨p8, 0, none⟩ = some (.slice B1 l1 c1) := (by rw [hSw.2.cell]; rfl); have d1 : w.cell? ⟨p8, 1, none⟩ = some (.slice B2 l2 c2) := (by rw [hSw.2.cell]; rfl); have d2 : w.cell? ⟨p8, 2, none⟩ = some (.slice B3 l3 c3) := (by rw [hSw.2.cell]; rfl); have zA := hSw.1.lt; have zD := hSw.2.lt; go_simp; try with_reducible rfl
          (try simp only [Act.put, List.setIfInBounds_toArray, List.set_cons_zero, List.set_cons_succ])
          refine reg_take (i := 2) (oi := _) (v := ?_) rfl (by kernel_rfl) (by kernel_rfl) (by kernel_rfl) (fun _ _ _ h => h) (by rfl) ?_ (by assumption) ?_
          rotate_left
          · intro w hSw; (try dsimp only at hSw); have a0 : w.cell? ⟨p + 1, 0, none⟩ = some (.int .i64 kind) := (by rw [hSw.1.cell]; rfl); have a1 : w.cell? ⟨p + 1, 1, none⟩ = some (.string name) := (by rw [hSw.1.cell]; rfl); have a2 : w.cell? ⟨p + 1, 2, none⟩ = some (.string dst) := (by rw [hSw.1.cell]; rfl); have a3 : w.cell? ⟨p + 1, 3, none⟩ = some (.string b) := (by rw [hSw.1.cell]; rfl); have a4 : w.cell? ⟨p + 1, 4, none⟩ = some (.int .i64 st) := (by rw [hSw.1.cell]; rfl); have a5 : w.cell? ⟨p + 1, 5, none⟩ = some (.int .i64 pt) := (by rw [hSw.1.cell]; rfl); have d0 : w.cell? ⟨p8, 0, none⟩ = some (.slice B1 l1 c1) := (by rw [hSw.2.cell]; rfl); have d1 : w.cell? ⟨p8, 1, none⟩ = some (.slice B2 l2 c2) := (by rw [hSw.2.cell]; rfl); have d2 : w.cell? ⟨p8, 2, none⟩ = some (.slice B3 l3 c3) := (by rw [hSw.2.cell]; rfl); have zA := hSw.1.lt; have zD := hSw.2.lt; go_simp; try with_reducible rfl
          (try simp only [Act.put, List.setIfInBounds_toArray, List.set_cons_zero, List.set_cons_succ])
          refine reg_take (i := 3) (oi := _) (v := ?_) rfl (by kernel_rfl) (by kernel_rfl) (by kernel_rfl) (fun _ _ _ h => h) (by rfl) ?_ (by assumption) ?_
          rotate_left
          · intro w hSw; (try dsimp only at hSw); have a0 : w.cell? ⟨p + 1, 0, none⟩ = some (.int .i64 kind) := (by rw [hSw.1.cell]; rfl); have a1 : w.cell? ⟨p + 1, 1, none⟩ = some (.string name) := (by rw [hSw.1.cell]; rfl); have a2 : w.cell? ⟨p + 1, 2, none⟩ = some (.string dst) := (by rw [hSw.1.cell]; rfl); have a3 : w.cell? ⟨p + 1, 3, none⟩ = some (.string b) := (by rw [hSw.1.cell]; rfl); have a4 : w.cell? ⟨p + 1, 4, none⟩ = some (.int .i64 st) := (by rw [hSw.1.cell]; rfl); have a5 : w.cell? ⟨p + 1, 5, none⟩ = some (.int .i64 pt) := (by rw [hSw.1.cell]; rfl); have d0 : w.cell? ⟨p8, 0, none⟩ = some (.slice B1 l1 c1) := (by rw [hSw.2.cell]; rfl); have d1 : w.cell? ⟨p8, 1, none⟩ = some (.slice B2 l2 c2) := (by rw [hSw.2.cell]; rfl); have d2 : w.cell? ⟨p8, 2, none⟩ = some (.slice B3 l3 c3) := (by rw [hSw.2.cell]; rfl); have zA := hSw.1.lt; have zD := hSw.2.lt; go_simp; try with_reducible rfl
          (try simp only [Act.put, List.setIfInBounds_toArray, List.set_cons_zero, List.set_cons_succ])
          refine reg_take (i := 4) (oi := _) (v := ?_) rfl (by kernel_rfl) (by kernel_rfl) (by kernel_rfl) (fun _ _ _ h => h) (by rfl) ?_ (by assumption) ?_
          rotate_left
          · intro w hSw; (try dsimp only at hSw); have a0 : w.cell? ⟨p + 1, 0, none⟩ = some (.int .i64 kind) := (by rw [hSw.1.cell]; rfl); have a1 : w.cell? ⟨p + 1, 1, none⟩ = some (.string name) := (by rw [hSw.1.cell]; rfl); have a2 : w.cell? ⟨p + 1, 2, none⟩ = some (.string dst) := (by rw [hSw.1.cell]; rfl); have a3 : w.cell? ⟨p + 1, 3, none⟩ = some (.string b) := (by rw [hSw.1.cell]; rfl); have a4 : w.cell? ⟨p + 1, 4, none⟩ = some (.int .i64 st) := (by rw [hSw.1.cell]; rfl); have a5 : w.cell? ⟨p + 1, 5, none⟩ = some (.int .i64 pt) := (by rw [hSw.1.cell]; rfl); have d0 : w.cell? ⟨p8, 0, none⟩ = some (.slice B1 l1 c1) := (by rw [hSw.2.cell]; rfl); have d1 : w.cell? ⟨p8, 1, none⟩ = some (.slice B2 l2 c2) := (by rw [hSw.2.cell]; rfl); have d2 : w.cell? ⟨p8, 2, none⟩ = some (.slice B3 l3 c3) := (by rw [hSw.2.cell]; rfl); have zA := hSw.1.lt; have zD := hSw.2.lt; go_simp; try with_reducible rfl
          (try simp only [Act.put, List.setIfInBounds_toArray, List.set_cons_zero, List.set_cons_succ])
          refine reg_take (i := 5) (oi := _) (v := ?_) rfl (by kernel_rfl) (by kernel_rfl) (by kernel_rfl) (fun _ _ _ h => h) (by rfl) ?_ (by assumption) ?_
          rotate_left
          · intro w hSw; (try dsimp only at hSw); have a0 : w.cell? ⟨p + 1, 0, none⟩ = some (.int .i64 kind) := (by rw [hSw.1.cell]; rfl); have a1 : w.cell? ⟨p + 1, 1, none⟩ = some (.string name) := (by rw [hSw.1.cell]; rfl); have a2 : w.cell? ⟨p + 1, 2, none⟩ = some (.string dst) := (by rw [hSw.1.cell]; rfl); have a3 : w.cell? ⟨p + 1, 3, none⟩ = some (.string b) := (by rw [hSw.1.cell]; rfl); have a4 : w.cell? ⟨p + 1, 4, none⟩ = some (.int .i64 st) := (by rw [hSw.1.cell]; rfl); have a5 : w.cell? ⟨p + 1, 5, none⟩ = some (.int .i64 pt) := (by rw [hSw.1.cell]; rfl); have d0 : w.cell? ⟨p8, 0, none⟩ = some (.slice B1 l1 c1) := (by rw [hSw.2.cell]; rfl); have d1 : w.cell? ⟨p8, 1, none⟩ = some (.slice B2 l2 c2) := (by rw [hSw.2.cell]; rfl); have d2 : w.cell? ⟨p8, 2, none⟩ = some (.slice B3 l3 c3) := (by rw [hSw.2.cell]; rfl); have zA := hSw.1.lt; have zD := hSw.2.lt; go_simp; try with_reducible rfl
          (try simp only [Act.put, List.setIfInBounds_toArray, List.set_cons_zero, List.set_cons_succ])
          refine reg_take (i := 9) (oi := _) (v := ?_) rfl (by kernel_rfl) (by kernel_rfl) (by kernel_rfl) (fun _ _ _ h => h) (by rfl) ?_ (by assumption) ?_
          rotate_left
          · intro w hSw; (try dsimp only at hSw); have a0 : w.cell? ⟨p + 1, 0, none⟩ = some (.int .i64 kind) := (by rw [hSw.1.cell]; rfl); have a1 : w.cell? ⟨p + 1, 1, none⟩ = some (.string name) := (by rw [hSw.1.cell]; rfl); have a2 : w.cell? ⟨p + 1, 2, none⟩ = some (.string dst) := (by rw [hSw.1.cell]; rfl); have a3 : w.cell? ⟨p + 1, 3, none⟩ = some (.string b) := (by rw [hSw.1.cell]; rfl); have a4 : w.cell? ⟨p + 1, 4, none⟩ = some (.int .i64 st) := (by rw [hSw.1.cell]; rfl); have a5 : w.cell? ⟨p + 1, 5, none⟩ = some (.int .i64 pt) := (by rw [hSw.1.cell]; rfl); have d0 : w.cell? ⟨p8, 0, none⟩ = some (.slice B1 l1 c1) := (by rw [hSw.2.cell]; rfl); have d1 : w.cell? ⟨p8, 1, none⟩ = some (.slice B2 l2 c2) := (by rw [hSw.2.cell]; rfl); have d2 : w.cell? ⟨p8, 2, none⟩ = some (.slice B3 l3 c3) := (by rw [hSw.2.cell]; rfl); have zA := hSw.1.lt; have zD := hSw.2.lt; go_simp; try with_reducible rfl
          (try simp only [Act.put, List.setIfInBounds_toArray, List.set_cons_zero, List.set_cons_succ])
          obtain ⟨cc, hcv, hrd⟩ := str_bytes b wd
          have hcv9 := hcv 9 Tryd.underlying9
          have hbc := (below_drewN (Below.refl wd.heap.size wd) 1).alloc (Nat.le_refl _) (Obj.cells (bytesRow b cc) 5 ((bytesRow b cc).size, (bytesRow b cc).size + 1))
          have HBC := Lib.hid (show Below wd.heap.size wd (wd.alloc (Obj.cells (bytesRow b cc) 5 ((bytesRow b cc).size, (bytesRow b cc).size + 1))).drew from hbc)
          have HRD := Lib.hid (show RdY (wd.alloc (Obj.cells (bytesRow b cc) 5 ((bytesRow b cc).size, (bytesRow b cc).size + 1))).drew (.slice (some ⟨wd.heap.size, 0, none⟩) b.size cc) b.data.toList from hrd)
          clear hcv hrd hbc
          refine wpAnyH_ready (rs := [6]) (by kernel_rfl) (by simp) ?_
          refine reg_each (o := _) rfl (fun K hK => ?_) ?_
          · skip
            go_simp
            refine hK.out _ _ ?_ (fun hHeld2 => ?_)
            · exact hHeld.kept (KeptY.below HBC.out)
            clear hK K hHeld
            have hHeld := hHeld2
            clear hHeld2
            (try simp only [Act.put, List.setIfInBounds_toArray, List.set_cons_zero, List.set_cons_succ])
            have KBC := KeptY.below HBC.out
            have HZc := Lib.hid (HZd.out.below HBC.out)
            have HDc := Lib.hid (HDd.out.below HBC.out)
            have HGc := Lib.hid (HGd.out.below HBC.out)
            have HOc := Lib.hid (HOd.out.kept KBC)
            have HBc := Lib.hid (HBd.out.trans (Fr.below HDd.out.1.lo.2 HBC.out))
            clear HZd HDd HGd HOd HBd HBC KBC hcv9
            generalize (wd.alloc (Obj.cells (bytesRow b cc) 5 ((bytesRow b cc).size, (bytesRow b cc).size + 1))).drew = wc at *
            generalize wd.heap.size = pb at *
            refine wpAnyH_ready (rs := [7]) (by kernel_rfl) (by simp) ?_
            refine reg_each (o := _) rfl (fun K hK => ?_) ?_
            · skip
              go_simp
              refine (PC.out _ _ HDc.out HRD.out).mono ?_
              rintro q w6 ⟨rfl, ⟨x9, hx9, hd9⟩, hF9⟩
              have HZ6 := Lib.hid (blk_keptY HZc.out hF9.2 (by decide) (by decide))
              have HD6 := Lib.hid hd9
              have HO6 := Lib.hid (hx9 _ _ (HOc.out.kept hF9.2))
              have HB6 := Lib.hid (HBc.out.trans hF9)
              have HG6 := Lib.hid (show ErrType w6 from (hF9.1.cell (p := ⟨0, 0, none⟩) hB0).trans HGc.out)
              have K6 := Lib.hid hF9.2
              clear hF9 hd9 hx9
              go_wp2_with (fail)
              refine hK.out _ _ ?_ (fun hHeld2 => ?_)
              · exact hHeld.kept K6.out
              clear hK K hHeld
              have hHeld := hHeld2
              clear hHeld2
              (try simp only [Act.put, List.setIfInBounds_toArray, List.set_cons_zero, List.set_cons_succ])
              clear K6 PC HZc HDc HGc HOc HBc
              refine wpAnyH_ready (rs := [8]) (by kernel_rfl) (by simp) ?_
              refine reg_each (o := _) rfl (fun K hK => ?_) ?_
              · skip
                go_simp
                refine (num_errI _ _ HG6.out).mono ?_
                rintro q w7 ⟨rfl, hb7⟩
                have k7 := KeptY.below hb7
                have HZ7 := Lib.hid (HZ6.out.below hb7)
                have HD7 := Lib.hid (HD6.out.below hb7)
                have HO7 := Lib.hid (HO6.out.kept k7)
                have HB7 := Lib.hid (HB6.out.trans (Fr.below HD6.out.1.lo.2 hb7))
                have K7 := Lib.hid k7
                clear hb7 k7
                go_wp2_with (fail)
                refine hK.out _ _ ?_ (fun hHeld2 => ?_)
                · exact hHeld.kept K7.out
                clear hK K hHeld
                have hHeld := hHeld2
                clear hHeld2
                (try simp only [Act.put, List.setIfInBounds_toArray, List.set_cons_zero, List.set_cons_succ])
                clear HZ6 HD6 HO6 HB6 HG6 K7
                refine reg_take (i := 10) (oi := _) (v := ?_) rfl (by kernel_rfl) (by kernel_rfl) (by kernel_rfl) (fun _ _ _ h => h) (by rfl) ?_ (by assumption) ?_
                rotate_left
                · intro w hSw; (try dsimp only at hSw); have a0 : w.cell? ⟨p + 1, 0, none⟩ = some (.int .i64 kind) := (by rw [hSw.1.cell]; rfl); have a1 : w.cell? ⟨p + 1, 1, none⟩ = some (.string name) := (by rw [hSw.1.cell]; rfl); have a2 : w.cell? ⟨p + 1, 2, none⟩ = some (.string dst) := (by rw [hSw.1.cell]; rfl); have a3 : w.cell? ⟨p + 1, 3, none⟩ = some (.string b) := (by rw [hSw.1.cell]; rfl); have a4 : w.cell? ⟨p + 1, 4, none⟩ = some (.int .i64 st) := (by rw [hSw.1.cell]; rfl); have a5 : w.cell? ⟨p + 1, 5, none⟩ = some (.int .i64 pt) := (by rw [hSw.1.cell]; rfl); have d0 : w.cell? ⟨p8, 0, none⟩ = some (.slice B1 l1 c1) := (by rw [hSw.2.cell]; rfl); have d1 : w.cell? ⟨p8, 1, none⟩ = some (.slice B2 l2 c2) := (by rw [hSw.2.cell]; rfl); have d2 : w.cell? ⟨p8, 2, none⟩ = some (.slice B3 l3 c3) := (by rw [hSw.2.cell]; rfl); have zA := hSw.1.lt; have zD := hSw.2.lt; go_simp; try with_reducible rfl
                (try simp only [Act.put, List.setIfInBounds_toArray, List.set_cons_zero, List.set_cons_succ])
                refine wpAnyH_ready (rs := [11]) (by kernel_rfl) (by simp) ?_
                refine reg_each (o := _) rfl (fun K hK => ?_) ?_
                · skip
                  have kZ0 := HZ7.out
                  have y0 : w7.cell? ⟨p + 2, 0, none⟩ = some (.slice none 0 0) := by rw [kZ0.cell]; rfl
                  have y1 : w7.cell? ⟨p + 2, 1, none⟩ = some (.slice none 0 0) := by rw [kZ0.cell]; rfl
                  have y2 : w7.cell? ⟨p + 2, 2, none⟩ = some (.slice none 0 0) := by rw [kZ0.cell]; rfl
                  have f0 := kZ0.frozen 0
                  have f1 := kZ0.frozen 1
                  have f2 := kZ0.frozen 2
                  have zZ := kZ0.lt
                  go_simp
                  refine hK.out _ _ ?_ (fun hHeld2 => ?_)
                  · exact ((hHeld.set HP8.out 0 _).set HP8.out 1 _).set HP8.out 2 _
                  clear hK K hHeld
                  have hHeld := hHeld2
                  clear hHeld2
                  (try simp only [Act.put, List.setIfInBounds_toArray, List.set_cons_zero, List.set_cons_succ])
                  refine reg_take (i := 12) (oi := _) (v := ?_) rfl (by kernel_rfl) (by kernel_rfl) (by kernel_rfl) (fun _ _ _ h => h) (by rfl) ?_ (by assumption) ?_
                  rotate_left
                  · intro w hSw; (try dsimp only at hSw); have a0 : w.cell? ⟨p + 1, 0, none⟩ = some (.int .i64 kind) := (by rw [hSw.1.cell]; rfl); have a1 : w.cell? ⟨p + 1, 1, none⟩ = some (.string name) := (by rw [hSw.1.cell]; rfl); have a2 : w.cell? ⟨p + 1, 2, none⟩ = some (.string dst) := (by rw [hSw.1.cell]; rfl); have a3 : w.cell? ⟨p + 1, 3, none⟩ = some (.string b) := (by rw [hSw.1.cell]; rfl); have a4 : w.cell? ⟨p + 1, 4, none⟩ = some (.int .i64 st) := (by rw [hSw.1.cell]; rfl); have a5 : w.cell? ⟨p + 1, 5, none⟩ = some (.int .i64 pt) := (by rw [hSw.1.cell]; rfl); have d0 : w.cell? ⟨p8, 0, none⟩ = some (.slice B1 l1 c1) := (by rw [hSw.2.cell]; rfl); have d1 : w.cell? ⟨p8, 1, none⟩ = some (.slice B2 l2 c2) := (by rw [hSw.2.cell]; rfl); have d2 : w.cell? ⟨p8, 2, none⟩ = some (.slice B3 l3 c3) := (by rw [hSw.2.cell]; rfl); have zA := hSw.1.lt; have zD := hSw.2.lt; go_simp; try with_reducible rfl
                  (try simp only [Act.put, List.setIfInBounds_toArray, List.set_cons_zero, List.set_cons_succ])
                  refine wpAnyH_done (by kernel_rfl) ?_ _
                  refine NoPanic.normal ?_
                  clear hHeld y0 y1 y2 f0 f1 f2 zZ
                  go_wp2_with (fail)
                  have kZ3 := ((kZ0.put 0 (.slice B1 l1 c1) rfl).put 1 (.slice B2 l2 c2) rfl).put 2 (.slice B3 l3 c3) rfl
                  refine bodyPost_end (results_ct_row rfl _ _ (p + 2) _ _ _ _ rfl kZ3) rfl ⟨_, x9, by simp, both_end HD7.out HO7.out kZ0, ?_⟩
                  exact fr_set3 HB7.out (by have := HBw.out; omega) (by rw [HP.out]; omega)
                exact AllReadyH.nil
              exact AllReadyH.nil
            exact AllReadyH.nil
          exact AllReadyH.nil
end Go.Proofs.YtgocmfjijoibkaaDoor
