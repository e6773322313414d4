/- The document's lists: Find, Without, With. -/
import Derived.Test.YtgocmfjijoibkaaDoorR2
namespace Go.Proofs.YtgocmfjijoibkaaDoor
open Go.RowKit
set_option linter.unusedSimpArgs false
set_option linter.unusedVariables false
set_option linter.unusedVariables false
open Go.Shelf
def Eqw (w w' : World) : Prop := w' = w
theorem Eqw.refl (w : World) : Eqw w w := rfl
def FindSaid (F : List Fl) (s : List UInt8) (w : World) (y : Ending) (w' : World) : Prop :=
  ∃ r : Int, y = .returned (.int .i64 r) ∧ w' = w ∧ ((r = -1 ∧ lookF F s = none) ∨ ∃ (k : Nat) (f : Fl), r = k ∧ F[k]? = some f ∧ f.1 = s ∧ lookF F s = some f.2)
theorem drop_at {F : List Fl} {i : Nat} (h : i < F.length) : ∃ f, F[i]? = some f ∧ F.drop i = f :: F.drop (i + 1) ∧ F.take (i + 1) = F.take i ++ [f] := by
  refine ⟨F[i], List.getElem?_eq_getElem h, List.drop_eq_getElem_cons h, ?_⟩
  rw [List.take_add_one, List.getElem?_eq_getElem h]; rfl
theorem str_ne {a b : List UInt8} (h : a ≠ b) : (⟨a.toArray⟩ : ByteArray) ≠ ⟨b.toArray⟩ := fun e => h (by injection e with e; injection e)
set_option maxHeartbeats 4000000 in
set_option maxRecDepth 100000 in
theorem find_walk (v : Value) (F : List Fl) (s : List UInt8) (w : World) (h : RdF w v F) (hF : F.length ≤ 64) : Calls Tryd.prog 20 #[v, .string ⟨s.toArray⟩] w (FindSaid F s w) := by
  obtain ⟨A, cap, rfl⟩ := h.form
  have HR := Lib.hid h
  clear h
  go_enter Tryd.func20, Tryd.ntmps20
  go_upto_region 1 with (fail)
  go_wp2_with (fail)
  go_loopw [5] (fun iv wl => ∃ i : Nat, iv = .int .i64 i ∧ i ≤ F.length ∧ lookF F s = lookF (F.drop i) s ∧ Eqw w wl) (fun iv _ => F.length - (intOf iv).toNat)
  case atStart => exact ⟨0, rfl, Nat.zero_le _, rfl, Eqw.refl _⟩
  case round =>
    obtain ⟨i, rfl, hi, hl, rfl⟩ := hrel
    have i0 : (0 : Int) ≤ i := by omega
    have HL := Lib.hid hl
    clear hl
    by_cases hil : i < F.length
    · have hil' : (i : Int) < (F.length : Int) := by omega
      obtain ⟨f, hf, hd, _⟩ := drop_at hil
      obtain ⟨g, rfl, c0, c1, zg⟩ := HR.out.at_ hf
      have HLS := Lib.hid (show lookF F s = if f.1 = s then some f.2 else lookF (F.drop (i + 1)) s by rw [HL.out, hd, lookF])
      have HFF := Lib.hid hf
      clear hf hd
      by_cases he : f.1 = s
      · have HE := Lib.hid (show FindSaid F s wr (.returned (.int .i64 (i : Int))) wr from ⟨_, rfl, rfl, .inr ⟨i, f, rfl, HFF.out, he, by rw [HLS.out, if_pos he]⟩⟩)
        rw [he] at c0
        clear he HLS
        go_wp2_with (fail)
        go_ret
        exact HE.out
      · have HN := Lib.hid (show lookF F s = lookF (F.drop (i + 1)) s by rw [HLS.out, if_neg he])
        have hne : (f.1 == s) = false := beq_eq_false_iff_ne.2 he
        clear he HLS
        go_wp2_with (fail)
        go_roundw
        case rel => exact ⟨i + 1, by go_num, by omega, HN.out, Eqw.refl _⟩
        case measure => simp [intOf]; omega
    · have hil' : ¬ (i : Int) < (F.length : Int) := by omega
      have HE := Lib.hid (show FindSaid F s wr (.returned (.int .i64 (-1))) wr from ⟨_, rfl, rfl, .inl ⟨rfl, by rw [HL.out, List.drop_eq_nil_of_le (by omega)]; rfl⟩⟩)
      go_wp2_with (fail)
      go_ret
      exact HE.out
theorem info83 : (Tryd.prog.info? 83).map (fun i => (i.zero, i.size, i.bytes)) = some (some (.agg #[.string ByteArray.empty, .string ByteArray.empty]), 2, 32) := by kernel_rfl
theorem below_grown' {B : Nat} {W w w1 : World} {row : Option Nat} (h : Below B W w) (g : w.grownBy w1 row) (hr : ∀ k, row = some k → B ≤ k) (hB : B ≤ w.heap.size) : Below B W w1 :=
  ⟨g.os.trans h.os, g.tape.trans h.tape, g.output.trans h.output, Nat.le_trans h.size g.size, fun k hk => (g.block k (by omega) (fun e => by have := hr k e.symm; omega)).trans (h.block k hk)⟩
def RowFl (b0 : Nat) (v : Value) (X : List Fl) (w : World) : Prop := w.ownsRow b0 83 2 v X.length (cellsFl X)
theorem RowFl.nil (b0 : Nat) (w : World) : RowFl b0 (.slice none 0 0) [] w := ⟨by simp [cellsFl], .inl ⟨rfl, rfl⟩⟩
def OutF (b0 : Nat) (w : World) (v : Value) (X : List Fl) (wl : World) : Prop := RowFl b0 v X wl ∧ Below b0 w wl
def FilesSaid (b0 : Nat) (X : List Fl) (w : World) (y : Ending) (w' : World) : Prop := ∃ v, y = .returned v ∧ OutF b0 w v X w'
theorem without_snoc (F : List Fl) (f : Fl) (s : List UInt8) : withoutF (F ++ [f]) s = if f.1 = s then withoutF F s else withoutF F s ++ [f] := by
  unfold withoutF
  rw [List.filter_append]
  by_cases h : f.1 = s
  · rw [if_pos h]; simp [h]
  · rw [if_neg h]; simp [h]
set_option maxHeartbeats 4000000 in
set_option maxRecDepth 100000 in
theorem without_walk (v : Value) (F : List Fl) (s : List UInt8) (w : World) (h : RdF w v F) (hF : F.length ≤ 64) : Calls Tryd.prog 52 #[v, .string ⟨s.toArray⟩] w (FilesSaid w.heap.size (withoutF F s) w) := by
  obtain ⟨A, cap, rfl⟩ := h.form
  obtain ⟨ii, hi0, hz0, hz1, hz2⟩ := info_parts info83
  have HR := Lib.hid h
  have H0 := Lib.hid (RowFl.nil w.heap.size w)
  clear h
  go_enter Tryd.func52, Tryd.ntmps52
  go_upto_region 2 with (fail)
  go_wp2_with (fail)
  go_loopw [5, 6] (fun ov iv wl => ∃ i : Nat, iv = .int .i64 i ∧ i ≤ F.length ∧ OutF w.heap.size w ov (withoutF (F.take i) s) wl) (fun _ iv _ => F.length - (intOf iv).toNat)
  case atStart => exact ⟨0, rfl, Nat.zero_le _, H0.out, Below.refl _ _⟩
  case round =>
    obtain ⟨wl, rfl⟩ : ∃ Z, Z = wr := ⟨_, rfl⟩
    obtain ⟨i, rfl, hi, ho, hb⟩ := hrel
    have i0 : (0 : Int) ≤ i := by omega
    have HO := Lib.hid ho
    have BEL := Lib.hid hb
    clear ho hb H0
    by_cases hil : i < F.length
    · have hil' : (i : Int) < (F.length : Int) := by omega
      obtain ⟨f, hf, hd, ht⟩ := drop_at hil
      obtain ⟨g, rfl, c0, c1, zg⟩ := (HR.out.kept (KeptY.below BEL.out)).at_ hf
      have HWS := Lib.hid (show withoutF (F.take (i + 1)) s = if f.1 = s then withoutF (F.take i) s else withoutF (F.take i) s ++ [f] by rw [ht]; exact without_snoc _ _ _)
      have hlen := without_le (F.take i) s
      have hlt : (F.take i).length ≤ 64 := by rw [List.length_take]; omega
      clear hf hd ht
      by_cases he : f.1 = s
      · have HN := Lib.hid (show withoutF (F.take (i + 1)) s = withoutF (F.take i) s by rw [HWS.out, if_pos he])
        rw [he] at c0
        clear he HWS
        go_wp2_with (fail)
        go_roundw
        case rel => exact ⟨i + 1, by go_num, by omega, by rw [HN.out]; exact ⟨HO.out, BEL.out⟩⟩
        case measure => simp [intOf]; omega
      · have HN := Lib.hid (show withoutF (F.take (i + 1)) s = withoutF (F.take i) s ++ [f] by rw [HWS.out, if_neg he])
        have hne : (f.1 == s) = false := beq_eq_false_iff_ne.2 he
        have hne2 : (f.1 != s) = true := by unfold bne; rw [hne]; rfl
        clear he HWS
        have hva := HO.out.alloc (.cells #[.string ⟨f.1.toArray⟩, .string ⟨f.2.toArray⟩] 83)
        have hnw := Lib.hid (World.news_of_block (cs := #[.string ⟨f.1.toArray⟩, .string ⟨f.2.toArray⟩]) (t := 83) (fr := (0, 0)) (heap_alloc_new wl (.cells #[.string ⟨f.1.toArray⟩, .string ⟨f.2.toArray⟩] 83)))
        have hsz4 : w.heap.size ≤ (wl.alloc (.cells #[.string ⟨f.1.toArray⟩, .string ⟨f.2.toArray⟩] 83)).heap.size := by have h1 := BEL.out.size; simp; omega
        go_wp2_with (at_builtin; refine wpList_append_own_at _ rfl _ _ 38 rfl w.heap.size 83 ii (.agg #[.string ByteArray.empty, .string ByteArray.empty]) 2 32 Tryd.underlying38 hi0 hz0 hz1 hz2 rfl (by decide) _ (withoutF (F.take i) s).length (cellsFl (withoutF (F.take i) s)) rfl hva ⟨wl.heap.size, 0, none⟩ 1 1 [.string ⟨f.1.toArray⟩, .string ⟨f.2.toArray⟩] rfl rfl hnw.out (by simp [Value.oneCell']) (by simp only [maxLen]; omega) (by omega) hsz4 ?_; intro v5 w5 own5 gr5 nil5 at5)
        have B5 := Lib.hid (below_grown' (BEL.out.alloc BEL.out.size _) gr5 (fun k e => (HO.out.lt k e).1) hsz4)
        have e5 : cellsFl (withoutF (F.take i) s) ++ [.string ⟨f.1.toArray⟩, .string ⟨f.2.toArray⟩] = cellsFl (withoutF (F.take i) s ++ [f]) := by rw [cellsFl_snoc]; rfl
        rw [e5, show (withoutF (F.take i) s).length + 1 = (withoutF (F.take i) s ++ [f]).length by simp] at own5
        have HO5 := Lib.hid own5
        clear own5 gr5 nil5 at5 hva hsz4 e5
        go_wp2
        go_roundw
        case rel => exact ⟨i + 1, by go_num, by omega, by rw [HN.out]; exact ⟨HO5.out, B5.out⟩⟩
        case measure => simp [intOf]; omega
    · have hil' : ¬ (i : Int) < (F.length : Int) := by omega
      have HE := Lib.hid (show FilesSaid w.heap.size (withoutF F s) w (.returned u5) wl from ⟨_, rfl, by have := HO.out; rwa [List.take_of_length_le (by omega)] at this, BEL.out⟩)
      go_wp2_with (fail)
      go_ret
      exact HE.out
end Go.Proofs.YtgocmfjijoibkaaDoor
