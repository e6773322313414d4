/- The library's functions at this seat; Trim, said. -/
import Derived.Test.YtfioigbopagogaaDoorBase
import Derived.Test.YtfioigbopagogaaDoorNum
import Derived.Test.YtfioigbopagogaaDoorStrLay
import Derived.Test.YtfioigbopagogaaDoorP4
import Derived.Shelf.Strings.SplitShaped
import Derived.Shelf.Strings.SlTrimAscii
import Derived.Shelf.Small.Wraps
import Derived.Shelf.Strings.Prefix
import Derived.Shelf.Strings.Cut
namespace Go.Proofs.YtfioigbopagogaaDoor
open Go.RowKit
set_option linter.unusedVariables false
open Go.Shelf
theorem bel_cell {w w' : World} {p : Addr} {v : Value} (h : Below w.heap.size w w') (c : w.cell? p = some v) : w'.cell? p = some v := (h.cell (World.block_lt_of_cell? w p c)).trans c
theorem below_grown' {B : Nat} {W w w1 : World} {row : Option Nat} (h : Below B W w) (g : w.grownBy w1 row) (hr : ∀ k, row = some k → B ≤ k) (hB : B ≤ w.heap.size) : Below B W w1 :=
  ⟨g.os.trans h.os, g.tape.trans h.tape, g.output.trans h.output, Nat.le_trans h.size g.size, fun k hk => (g.block k (by omega) (fun e => by have := hr k e.symm; omega)).trans (h.block k hk)⟩
theorem sz_len (s : ByteArray) : s.data.toList.length = s.size := by rw [ByteArray.size, Array.length_toList]
theorem ba_inj {a b : ByteArray} (h : a.data.toList = b.data.toList) : a = b := by
  obtain ⟨⟨a⟩⟩ := a; obtain ⟨⟨b⟩⟩ := b; simp at h; rw [h]
theorem app_data (a b : ByteArray) : (a ++ b).data.toList = a.data.toList ++ b.data.toList := by rw [ByteArray.data_append, Array.toList_append]
/-- An error as a value, by its number. -/
def errE (e : Int) : Value := if e = 0 then .nilIface else .iface 44 (.int .i64 e)
theorem errE0 : errE 0 = .nilIface := rfl
theorem errE2 : errE 2 = .iface 44 (.int .i64 2) := rfl
theorem num_errE (e : Int) (w : World) (hg : ErrType w) : Calls Tryd.prog 17 #[errE e] w fun y w' => y = .returned (.int .i64 e) ∧ Below w.heap.size w w' := by
  unfold errE
  by_cases h : e = 0
  · rw [if_pos h, h]; exact num_nil w
  · rw [if_neg h]; exact num_hit e w hg
def MaxL (w : World) : Prop := ∃ m, w.cell? ⟨1, 0, none⟩ = some (.int .i64 m)
theorem MaxL.below {w w1 : World} (h : MaxL w) (hb : Below w.heap.size w w1) : MaxL w1 := by
  obtain ⟨m, h⟩ := h; exact ⟨m, bel_cell hb h⟩
theorem split_nl (s : ByteArray) (w : World) (hm : MaxL w) (hs : s.size < 4294967281) :
    Calls Tryd.prog 18 #[.string s, .string ⟨#[10]⟩] w fun e w' => ∃ ps : List ByteArray, ps.map (·.data.toList) = pcs 10 s.data.toList ∧
      e = .returned (.slice (some ⟨w.heap.size, 0, none⟩) ps.length ps.length) ∧ w' = w.alloc (.cells (ps.map Value.string).toArray 9) := by
  obtain ⟨m, hm⟩ := hm
  have hc : Lib.countB s ⟨#[10]⟩ = s.data.toList.count 10 := Lib.count_one 10 s.data.toList
  have hl := Lib.splitB_all ⟨#[10]⟩ (by decide) 0 _ s rfl
  have hp := Lib.splitB_data ⟨#[10]⟩ 0 (Lib.countB s ⟨#[10]⟩) s
  refine (Any.strings_Split { Tryd.split with } Tryd.split.i9 s ⟨#[10]⟩ m w hs hm (by decide)).mono ?_
  rintro e w' ⟨rfl, rfl⟩
  refine ⟨_, ?_, by rw [hl], rfl⟩
  rw [hp, hc]
  exact splitK_pcs 10 _
theorem cutsuf (s : ByteArray) (w : World) (hs : s.size ≤ 9223372036854775807) :
    Calls Tryd.prog 19 #[.string s, .string ⟨#[92]⟩] w fun e w' => e = .returned (.tuple #[.string ⟨(stripF s.data.toList).toArray⟩, .bool (endsF s.data.toList)]) ∧ w' = w :=
  Any.strings_CutSuffix Tryd.cutSuf s ⟨#[92]⟩ w hs
theorem info256 : (Tryd.prog.info? (Tryd.trim_ren.t 116)).map (fun i => (i.zero, i.size)) = some (some (.agg (Array.replicate 256 (.bool false))), 256) := by kernel_rfl
theorem trim_lib (s : ByteArray) (w : World) (hs : s.size ≤ 9223372036854775807) :
    Calls Tryd.prog 21 #[.string s, .string ⟨#[32, 9, 13]⟩] w fun e w' => e = .returned (.string ⟨(Lib.trimS s.data.toList blanks).toArray⟩) ∧ Below w.heap.size w w' :=
  Any.strings_Trim_laid Tryd.trim info256 s ⟨#[32, 9, 13]⟩ w hs (by decide) (ascii_of_all (by decide))
theorem prefix35 (s : ByteArray) (w : World) : Calls Tryd.prog 28 #[.string s, .string ⟨#[35]⟩] w fun e w' => e = .returned (.bool (Lib.hasPrefix s.data.toList [35])) ∧ w' = w :=
  Any.strings_HasPrefix Tryd.hasPre s ⟨#[35]⟩ w
theorem cut59 (s : ByteArray) (w : World) (hm : MaxL w) (hs : s.size < 4294967281) :
    Calls Tryd.prog 29 #[.string s, .string ⟨#[59]⟩] w fun e w' => (∃ (y : ByteArray) (b : Bool), e = .returned (.tuple #[.string ⟨(Lib.cut s.data.toList [59]).1.toArray⟩, .string y, .bool b])) ∧ Below w.heap.size w w' := by
  obtain ⟨m, hm⟩ := hm
  refine (Any.strings_Cut Tryd.cut s ⟨#[59]⟩ m w hs hm).mono ?_
  rintro e w' ⟨rfl, n, rfl⟩
  exact ⟨⟨_, _, rfl⟩, below_drewN (Below.refl _ _) n⟩
theorem trim_walk (s : ByteArray) (w : World) (hs : s.size ≤ 9223372036854775807) :
    Calls Tryd.prog 10 #[.string s] w fun e w' => e = .returned (.string ⟨(Lib.trimS s.data.toList blanks).toArray⟩) ∧ Below w.heap.size w w' := by
  have TL := Lib.hid (trim_lib s w hs)
  go_enter Tryd.func10, Tryd.ntmps10
  go_wp2_with (fail)
  refine TL.out.mono ?_
  rintro e w1 ⟨rfl, B1⟩
  go_wp2
  go_ret
  exact ⟨rfl, B1⟩
theorem said_walk (s : ByteArray) (w : World) (hm : MaxL w) (hs : s.size < 4294967281) :
    Calls Tryd.prog 20 #[.string s] w fun e w' => e = .returned (.string ⟨(saidF s.data.toList).toArray⟩) ∧ Below w.heap.size w w' := by
  have TW := Lib.hid (trim_walk s w (by omega))
  have HM := Lib.hid hm
  clear hm
  go_enter Tryd.func20, Tryd.ntmps20
  go_wp2_with (fail)
  refine TW.out.mono ?_
  rintro e w1 ⟨rfl, B1⟩
  have BH := Lib.hid B1
  have HM1 := Lib.hid (HM.out.below B1)
  have HX := Lib.hid (show ∀ b, b = Lib.hasPrefix (Lib.trimS s.data.toList blanks) [35] → saidF s.data.toList = if b = true then [] else Lib.trimS (Lib.cut s.data.toList [59]).1 blanks from fun b hb => by rw [hb]; rfl)
  have PX := Lib.hid (prefix35 ⟨(Lib.trimS s.data.toList blanks).toArray⟩ w1)
  clear TW B1
  go_wp2_with (fail)
  refine PX.out.mono ?_
  rintro e w2 ⟨rfl, rfl⟩
  have HX1 := Lib.hid (HX.out _ rfl)
  clear PX HX
  dsimp only at HX1 ⊢
  generalize Lib.hasPrefix (Lib.trimS s.data.toList blanks) [35] = b at *
  cases b with
  | true =>
    go_wp2_with (fail)
    go_ret
    exact ⟨by rw [HX1.out]; rfl, BH.out⟩
  | false =>
    have CU := Lib.hid (cut59 s w2 HM1.out hs)
    go_wp2_with (fail)
    refine CU.out.mono ?_
    rintro e w3 ⟨⟨y, bb, rfl⟩, B3⟩
    have BH3 := Lib.hid (below_trans BH.out B3)
    have HCL := Lib.hid (cut_len s.data.toList)
    have HSL := Lib.hid (sz_len s)
    have HX2 := Lib.hid (show saidF s.data.toList = Lib.trimS (Lib.cut s.data.toList [59]).1 blanks by rw [HX1.out]; rfl)
    clear CU B3 BH HX1
    generalize (Lib.cut s.data.toList [59]).1 = c at *
    have TW := Lib.hid (trim_walk ⟨c.toArray⟩ w3 (by have h1 := HCL.out; rw [HSL.out] at h1; rw [← sz_len]; simp; omega))
    go_wp2_with (fail)
    refine TW.out.mono ?_
    rintro e w4 ⟨rfl, B4⟩
    have B5 := below_trans BH3.out B4
    go_wp2
    go_ret
    exact ⟨by rw [HX2.out]; rfl, B5⟩
end Go.Proofs.YtfioigbopagogaaDoor
