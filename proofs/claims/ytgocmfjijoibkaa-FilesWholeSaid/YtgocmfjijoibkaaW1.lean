/- FilesWhole walked. -/
import Derived.Test.YtgocmfjijoibkaaA1
namespace Go.Proofs.Ytgocmfjijoibkaa
open Go.RowKit
set_option linter.unusedSimpArgs false
set_option linter.unusedVariables false
set_option linter.unusedVariables false
def LoI (B d : Nat) (w1 wl : World) : Prop := Below B w1 wl ∧ ∃ x, DiskOk wl B d x
set_option maxHeartbeats 8000000 in
set_option maxRecDepth 100000 in
theorem whole_walk (v1 v2 : Value) (L1 L2 : List Ac) (all : Bool) (w : World) (h1 : RdA w v1 w.heap.size L1) (h2 : RdA w v2 w.heap.size L2) (l1 : L1.length ≤ 9223372036854775807) (l2 : L2.length ≤ 9223372036854775807) :
    Calls Try.prog 3 #[v1, v2, .bool all] w (SureSaid w) := by
  obtain ⟨A1, c1, rfl⟩ := h1.form
  obtain ⟨A2, c2, rfl⟩ := h2.form
  have NW := new_ok w
  have HL1 := Lib.hid h1
  have HL2 := Lib.hid h2
  clear h1 h2
  go_enter Try.func3, Try.ntmps3
  go_upto_region 1 with (fail)
  go_wp2_with (fail)
  refine Calls.mono NW ?_
  rintro y w1 ⟨d, rfl, hd, hB1⟩
  have HD1 := Lib.hid hd
  have HB1 := Lib.hid hB1
  have HA1 := Lib.hid (HL1.out.below hB1 (Nat.le_refl _))
  have HA2 := Lib.hid (HL2.out.below hB1 (Nat.le_refl _))
  clear hd hB1 NW HL1 HL2
  generalize hB : w.heap.size = B at *
  obtain ⟨S, hS⟩ : ∃ S, IntKind.i64.wrap ((L1.length : Int) + (L2.length : Int)) = S := ⟨_, rfl⟩
  have hS2 : S = (L1.length : Int) + (L2.length : Int) ∨ S < 0 := by
    rw [IntKind.wrap_i64] at hS
    omega
  have HS2 := Lib.hid hS2
  have HI1 := Lib.hid (show LoI B d w1 w1 from ⟨Below.refl _ _, _, HD1.out⟩)
  clear hS2
  go_upto_region 4 with (fail)
  go_wp2_with (fail)
  go_loopw [8] (fun iv wl => ∃ i : Nat, iv = .int .i64 i ∧ i ≤ 80 ∧ LoI B d w1 wl) (fun iv _ => 80 - (intOf iv).toNat)
  case atStart => exact ⟨0, rfl, by omega, HI1.out⟩
  case round =>
    obtain ⟨wl, rfl⟩ : ∃ Z, Z = wr := ⟨_, rfl⟩
    obtain ⟨i, rfl, hi, hI⟩ := hrel
    have HI := Lib.hid hI
    clear hI HI1
    have i0 : (0 : Int) ≤ i := by omega
    by_cases hiS : (i : Int) < S
    · have hSe : S = (L1.length : Int) + (L2.length : Int) := by rcases HS2.out with h | h <;> omega
      have HSE := Lib.hid hSe
      by_cases hi80 : i < 80
      · have hi80' : (i : Int) < 80 := by omega
        clear hSe
        by_cases hi1 : i < L1.length
        · have hi1' : (i : Int) < (L1.length : Int) := by omega
          obtain ⟨g, o, rfl, ha⟩ := (HA1.out.below HI.out.1 (Nat.le_refl _)).at_ hi1
          generalize L1.getD i ac0 = a at *
          obtain ⟨kind, name, dst, b, st, pt⟩ := a
          obtain ⟨x0, x1, x2, x3, x4, x5⟩ := ha
          dsimp only at x0 x1 x2 x3 x4 x5
          have zg := World.block_lt_of_cell? _ _ x0
          go_upto_region 12 with (fail)
          clear x0 x1 x2 x3 x4 x5 zg
          have hal := (Below.refl wl.heap.size wl).alloc (Nat.le_refl _) (Obj.cells #[.int .i64 (kind : Int), .string name, .string dst, .string b, .int .i64 (st : Int), .int .i64 (pt : Int)] 26)
          have hb := Blk.new wl 26 #[.int .i64 (kind : Int), .string name, .string dst, .string b, .int .i64 (st : Int), .int .i64 (pt : Int)]
          obtain ⟨hI1, x, hx⟩ := HI.out
          have hBl : B ≤ wl.heap.size := hx.1.lo.2
          have HIA := Lib.hid (show LoI B d w1 (wl.alloc (Obj.cells #[.int .i64 (kind : Int), .string name, .string dst, .string b, .int .i64 (st : Int), .int .i64 (pt : Int)] 26)) from ⟨hI1.trans (hal.mono hBl), x, hx.below hal⟩)
          have HXA := Lib.hid (hx.below hal)
          have q0 : (wl.alloc (Obj.cells #[.int .i64 (kind : Int), .string name, .string dst, .string b, .int .i64 (st : Int), .int .i64 (pt : Int)] 26)).cell? ⟨wl.heap.size, 0, none⟩ = some (.int .i64 (kind : Int)) := by rw [hb.cell]; rfl
          have q1 : (wl.alloc (Obj.cells #[.int .i64 (kind : Int), .string name, .string dst, .string b, .int .i64 (st : Int), .int .i64 (pt : Int)] 26)).cell? ⟨wl.heap.size, 1, none⟩ = some (.string name) := by rw [hb.cell]; rfl
          have q2 : (wl.alloc (Obj.cells #[.int .i64 (kind : Int), .string name, .string dst, .string b, .int .i64 (st : Int), .int .i64 (pt : Int)] 26)).cell? ⟨wl.heap.size, 2, none⟩ = some (.string dst) := by rw [hb.cell]; rfl
          have q3 : (wl.alloc (Obj.cells #[.int .i64 (kind : Int), .string name, .string dst, .string b, .int .i64 (st : Int), .int .i64 (pt : Int)] 26)).cell? ⟨wl.heap.size, 3, none⟩ = some (.string b) := by rw [hb.cell]; rfl
          have q4 : (wl.alloc (Obj.cells #[.int .i64 (kind : Int), .string name, .string dst, .string b, .int .i64 (st : Int), .int .i64 (pt : Int)] 26)).cell? ⟨wl.heap.size, 4, none⟩ = some (.int .i64 (st : Int)) := by rw [hb.cell]; rfl
          have q5 : (wl.alloc (Obj.cells #[.int .i64 (kind : Int), .string name, .string dst, .string b, .int .i64 (st : Int), .int .i64 (pt : Int)] 26)).cell? ⟨wl.heap.size, 5, none⟩ = some (.int .i64 (pt : Int)) := by rw [hb.cell]; rfl
          have zq := hb.lt
          clear hal hb hI1 hx hBl HI
          generalize (wl.alloc (Obj.cells #[.int .i64 (kind : Int), .string name, .string dst, .string b, .int .i64 (st : Int), .int .i64 (pt : Int)] 26)) = wa at *
          generalize wl.heap.size = p at *
          by_cases hlong : 3000 < b.size
          · have hlong' : (3000 : Int) < (b.size : Int) := by omega
            obtain ⟨hIA, _⟩ := HIA.out
            have BT := Lib.hid (HB1.out.trans hIA)
            have hBw : B ≤ wa.heap.size := HXA.out.1.lo.2
            have HBW := Lib.hid hBw
            have SW := sure_walk wa
            clear hIA
            go_wp2_with (fail)
            refine Calls.mono SW ?_
            rintro y w9 ⟨rfl, hB9⟩
            have HR := Lib.hid (show Below B w w9 from BT.out.trans (hB9.mono HBW.out))
            clear SW hB9
            go_wp2_with (fail)
            go_ret
            exact ⟨rfl, by rw [hB]; exact HR.out⟩
          have hlong' : ¬ (3000 : Int) < (b.size : Int) := by omega
          have hmod : ((IntKind.u64.wrap kind).tmod 6) = acM (⟨kind, name, dst, b, st, pt⟩ : Ac) := rfl
          have hm := acM_bd (⟨kind, name, dst, b, st, pt⟩ : Ac)
          have hmw : IntKind.i64.wrap (acM (⟨kind, name, dst, b, st, pt⟩ : Ac)) = acM (⟨kind, name, dst, b, st, pt⟩ : Ac) := by rw [IntKind.wrap_i64]; omega
          have HMM := Lib.hid (Eq.refl (acM (⟨kind, name, dst, b, st, pt⟩ : Ac)))
          generalize acM (⟨kind, name, dst, b, st, pt⟩ : Ac) = m at *
          by_cases hm4 : m < 4
          · skip
            have CW := act_walk B d (⟨kind, name, dst, b, st, pt⟩ : Ac) (by show b.size ≤ 1000000; omega) x wa HXA.out
            have HBX := Lib.hid HIA.out.1
            clear HIA HXA
            go_wp2_with (fail)
            refine Calls.mono CW ?_
            rintro y w3 ⟨rfl, ⟨x3, _, hx3⟩, hF3⟩
            have HNX := Lib.hid (show LoI B d w1 w3 from ⟨HBX.out.trans hF3.1, x3, hx3⟩)
            clear CW hx3 hF3 q0 q1 q2 q3 q4 q5
            go_wp2_with (fail)
            go_roundw
            case rel => exact ⟨i + 1, by go_num, by omega, HNX.out⟩
            case measure => simp [intOf]; omega
          · have hne : ((i : Int) == (L1.length : Int)) = false := beq_eq_false_iff_ne.2 (by skip; omega)
            clear HXA
            go_wp2_with (fail)
            go_roundw
            case rel => exact ⟨i + 1, by go_num, by omega, HIA.out⟩
            case measure => simp [intOf]; omega
        · by_cases hi2 : L1.length < i
          · have hi2' : (L1.length : Int) < (i : Int) := by omega
            obtain ⟨j, hj⟩ : ∃ j, i = L1.length + 1 + j := ⟨i - L1.length - 1, by omega⟩
            have hjl : j < L2.length := by have := HSE.out; omega
            have hw1 : IntKind.i64.wrap ((i : Int) - (L1.length : Int)) = (j : Int) + 1 := by rw [IntKind.wrap_i64]; omega
            have hw2 : IntKind.i64.wrap ((j : Int) + 1 - 1) = (j : Int) := by rw [IntKind.wrap_i64]; omega
            have j0 : (0 : Int) ≤ j := by omega
            have hjl' : (j : Int) < (L2.length : Int) := by omega
            obtain ⟨g, o, rfl, ha⟩ := (HA2.out.below HI.out.1 (Nat.le_refl _)).at_ hjl
            generalize L2.getD j ac0 = a at *
            have HJ := Lib.hid hj
            clear hj
            obtain ⟨kind, name, dst, b, st, pt⟩ := a
            obtain ⟨x0, x1, x2, x3, x4, x5⟩ := ha
            dsimp only at x0 x1 x2 x3 x4 x5
            have zg := World.block_lt_of_cell? _ _ x0
            go_upto_region 12 with (fail)
            clear x0 x1 x2 x3 x4 x5 zg
            have hal := (Below.refl wl.heap.size wl).alloc (Nat.le_refl _) (Obj.cells #[.int .i64 (kind : Int), .string name, .string dst, .string b, .int .i64 (st : Int), .int .i64 (pt : Int)] 26)
            have hb := Blk.new wl 26 #[.int .i64 (kind : Int), .string name, .string dst, .string b, .int .i64 (st : Int), .int .i64 (pt : Int)]
            obtain ⟨hI1, x, hx⟩ := HI.out
            have hBl : B ≤ wl.heap.size := hx.1.lo.2
            have HIA := Lib.hid (show LoI B d w1 (wl.alloc (Obj.cells #[.int .i64 (kind : Int), .string name, .string dst, .string b, .int .i64 (st : Int), .int .i64 (pt : Int)] 26)) from ⟨hI1.trans (hal.mono hBl), x, hx.below hal⟩)
            have HXA := Lib.hid (hx.below hal)
            have q0 : (wl.alloc (Obj.cells #[.int .i64 (kind : Int), .string name, .string dst, .string b, .int .i64 (st : Int), .int .i64 (pt : Int)] 26)).cell? ⟨wl.heap.size, 0, none⟩ = some (.int .i64 (kind : Int)) := by rw [hb.cell]; rfl
            have q1 : (wl.alloc (Obj.cells #[.int .i64 (kind : Int), .string name, .string dst, .string b, .int .i64 (st : Int), .int .i64 (pt : Int)] 26)).cell? ⟨wl.heap.size, 1, none⟩ = some (.string name) := by rw [hb.cell]; rfl
            have q2 : (wl.alloc (Obj.cells #[.int .i64 (kind : Int), .string name, .string dst, .string b, .int .i64 (st : Int), .int .i64 (pt : Int)] 26)).cell? ⟨wl.heap.size, 2, none⟩ = some (.string dst) := by rw [hb.cell]; rfl
            have q3 : (wl.alloc (Obj.cells #[.int .i64 (kind : Int), .string name, .string dst, .string b, .int .i64 (st : Int), .int .i64 (pt : Int)] 26)).cell? ⟨wl.heap.size, 3, none⟩ = some (.string b) := by rw [hb.cell]; rfl
            have q4 : (wl.alloc (Obj.cells #[.int .i64 (kind : Int), .string name, .string dst, .string b, .int .i64 (st : Int), .int .i64 (pt : Int)] 26)).cell? ⟨wl.heap.size, 4, none⟩ = some (.int .i64 (st : Int)) := by rw [hb.cell]; rfl
            have q5 : (wl.alloc (Obj.cells #[.int .i64 (kind : Int), .string name, .string dst, .string b, .int .i64 (st : Int), .int .i64 (pt : Int)] 26)).cell? ⟨wl.heap.size, 5, none⟩ = some (.int .i64 (pt : Int)) := by rw [hb.cell]; rfl
            have zq := hb.lt
            clear hal hb hI1 hx hBl HI
            generalize (wl.alloc (Obj.cells #[.int .i64 (kind : Int), .string name, .string dst, .string b, .int .i64 (st : Int), .int .i64 (pt : Int)] 26)) = wa at *
            generalize wl.heap.size = p at *
            by_cases hlong : 3000 < b.size
            · have hlong' : (3000 : Int) < (b.size : Int) := by omega
              obtain ⟨hIA, _⟩ := HIA.out
              have BT := Lib.hid (HB1.out.trans hIA)
              have hBw : B ≤ wa.heap.size := HXA.out.1.lo.2
              have HBW := Lib.hid hBw
              have SW := sure_walk wa
              clear hIA
              go_wp2_with (fail)
              refine Calls.mono SW ?_
              rintro y w9 ⟨rfl, hB9⟩
              have HR := Lib.hid (show Below B w w9 from BT.out.trans (hB9.mono HBW.out))
              clear SW hB9
              go_wp2_with (fail)
              go_ret
              exact ⟨rfl, by rw [hB]; exact HR.out⟩
            have hlong' : ¬ (3000 : Int) < (b.size : Int) := by omega
            have hmod : ((IntKind.u64.wrap kind).tmod 6) = acM (⟨kind, name, dst, b, st, pt⟩ : Ac) := rfl
            have hm := acM_bd (⟨kind, name, dst, b, st, pt⟩ : Ac)
            have hmw : IntKind.i64.wrap (acM (⟨kind, name, dst, b, st, pt⟩ : Ac)) = acM (⟨kind, name, dst, b, st, pt⟩ : Ac) := by rw [IntKind.wrap_i64]; omega
            have HMM := Lib.hid (Eq.refl (acM (⟨kind, name, dst, b, st, pt⟩ : Ac)))
            generalize acM (⟨kind, name, dst, b, st, pt⟩ : Ac) = m at *
            by_cases hm4 : m < 4
            · skip
              have CW := act_walk B d (⟨kind, name, dst, b, st, pt⟩ : Ac) (by show b.size ≤ 1000000; omega) x wa HXA.out
              have HBX := Lib.hid HIA.out.1
              clear HIA HXA
              go_wp2_with (fail)
              refine Calls.mono CW ?_
              rintro y w3 ⟨rfl, ⟨x3, _, hx3⟩, hF3⟩
              have HNX := Lib.hid (show LoI B d w1 w3 from ⟨HBX.out.trans hF3.1, x3, hx3⟩)
              clear CW hx3 hF3 q0 q1 q2 q3 q4 q5
              go_wp2_with (fail)
              go_roundw
              case rel => exact ⟨i + 1, by go_num, by omega, HNX.out⟩
              case measure => simp [intOf]; omega
            · have hne : ((i : Int) == (L1.length : Int)) = false := beq_eq_false_iff_ne.2 (by have := HJ.out; omega)
              clear HXA
              go_wp2_with (fail)
              go_roundw
              case rel => exact ⟨i + 1, by go_num, by omega, HIA.out⟩
              case measure => simp [intOf]; omega
          · have hie : (i : Int) = (L1.length : Int) := by omega
            go_upto_region 12 with (fail)
            have hal := (Below.refl wl.heap.size wl).alloc (Nat.le_refl _) (Obj.cells #[.int .i64 (4 : Int), .string ⟨#[]⟩, .string ⟨#[]⟩, .string ⟨#[]⟩, .int .i64 (0 : Int), .int .i64 (0 : Int)] 26)
            have hb := Blk.new wl 26 #[.int .i64 (4 : Int), .string ⟨#[]⟩, .string ⟨#[]⟩, .string ⟨#[]⟩, .int .i64 (0 : Int), .int .i64 (0 : Int)]
            obtain ⟨hI1, x, hx⟩ := HI.out
            have hBl : B ≤ wl.heap.size := hx.1.lo.2
            have HIA := Lib.hid (show LoI B d w1 (wl.alloc (Obj.cells #[.int .i64 (4 : Int), .string ⟨#[]⟩, .string ⟨#[]⟩, .string ⟨#[]⟩, .int .i64 (0 : Int), .int .i64 (0 : Int)] 26)) from ⟨hI1.trans (hal.mono hBl), x, hx.below hal⟩)
            have HXA := Lib.hid (hx.below hal)
            have q0 : (wl.alloc (Obj.cells #[.int .i64 (4 : Int), .string ⟨#[]⟩, .string ⟨#[]⟩, .string ⟨#[]⟩, .int .i64 (0 : Int), .int .i64 (0 : Int)] 26)).cell? ⟨wl.heap.size, 0, none⟩ = some (.int .i64 (4 : Int)) := by rw [hb.cell]; rfl
            have q1 : (wl.alloc (Obj.cells #[.int .i64 (4 : Int), .string ⟨#[]⟩, .string ⟨#[]⟩, .string ⟨#[]⟩, .int .i64 (0 : Int), .int .i64 (0 : Int)] 26)).cell? ⟨wl.heap.size, 1, none⟩ = some (.string ⟨#[]⟩) := by rw [hb.cell]; rfl
            have q2 : (wl.alloc (Obj.cells #[.int .i64 (4 : Int), .string ⟨#[]⟩, .string ⟨#[]⟩, .string ⟨#[]⟩, .int .i64 (0 : Int), .int .i64 (0 : Int)] 26)).cell? ⟨wl.heap.size, 2, none⟩ = some (.string ⟨#[]⟩) := by rw [hb.cell]; rfl
            have q3 : (wl.alloc (Obj.cells #[.int .i64 (4 : Int), .string ⟨#[]⟩, .string ⟨#[]⟩, .string ⟨#[]⟩, .int .i64 (0 : Int), .int .i64 (0 : Int)] 26)).cell? ⟨wl.heap.size, 3, none⟩ = some (.string ⟨#[]⟩) := by rw [hb.cell]; rfl
            have q4 : (wl.alloc (Obj.cells #[.int .i64 (4 : Int), .string ⟨#[]⟩, .string ⟨#[]⟩, .string ⟨#[]⟩, .int .i64 (0 : Int), .int .i64 (0 : Int)] 26)).cell? ⟨wl.heap.size, 4, none⟩ = some (.int .i64 (0 : Int)) := by rw [hb.cell]; rfl
            have q5 : (wl.alloc (Obj.cells #[.int .i64 (4 : Int), .string ⟨#[]⟩, .string ⟨#[]⟩, .string ⟨#[]⟩, .int .i64 (0 : Int), .int .i64 (0 : Int)] 26)).cell? ⟨wl.heap.size, 5, none⟩ = some (.int .i64 (0 : Int)) := by rw [hb.cell]; rfl
            have zq := hb.lt
            clear hal hb hI1 hx hBl HI
            generalize (wl.alloc (Obj.cells #[.int .i64 (4 : Int), .string ⟨#[]⟩, .string ⟨#[]⟩, .string ⟨#[]⟩, .int .i64 (0 : Int), .int .i64 (0 : Int)] 26)) = wa at *
            generalize wl.heap.size = p at *
            have CW := act_walk B d (⟨4, ⟨#[]⟩, ⟨#[]⟩, ⟨#[]⟩, 0, 0⟩ : Ac) (by show 0 ≤ 1000000; omega) x wa HXA.out
            have HBX := Lib.hid HIA.out.1
            clear HIA HXA
            go_wp2_with (fail)
            refine Calls.mono CW ?_
            rintro y w3 ⟨rfl, ⟨x3, _, hx3⟩, hF3⟩
            have HNX := Lib.hid (show LoI B d w1 w3 from ⟨HBX.out.trans hF3.1, x3, hx3⟩)
            clear CW hx3 hF3 q0 q1 q2 q3 q4 q5
            go_wp2_with (fail)
            go_roundw
            case rel => exact ⟨i + 1, by go_num, by omega, HNX.out⟩
            case measure => simp [intOf]; omega
      · have hi80' : ¬ (i : Int) < 80 := by omega
        obtain ⟨hI1, x, hx⟩ := HI.out
        have hBT := hI1
        cases all with
        | true =>
          obtain ⟨wn, hwn⟩ : ∃ wn, wn = wl := ⟨_, rfl⟩
          subst hwn
          have HX := Lib.hid hx
          have BT := Lib.hid hBT
          clear hI1 hx hBT HI
          have NM := names_walk B d x.now x.sure x.T wn HX.out.1
          have HBN := Lib.hid HX.out.1.lo.2
          go_upto_region 21 with (fail)
          go_wp2_with (fail)
          refine Calls.mono NM ?_
          rintro y w3 ⟨vN, B0, rfl, hB0, hrow, _, hB3⟩
          have HX3 := Lib.hid (HX.out.below hB3)
          have BT3 := Lib.hid (BT.out.trans (hB3.mono HBN.out))
          obtain ⟨AN, cN, rfl⟩ := row_form hrow
          have HROW := Lib.hid hrow
          clear NM hrow hB3 HX BT HBN
          have hF64 := HX3.out.1.an.2
          have hRS := RowsAt.start w3 x.now
          have HRS := Lib.hid hRS
          clear hRS
          go_upto_region 22 with (fail)
          go_wp2_with (fail)
          go_loopw [10, 11, 13, 14, 15] (fun r1 r2 iv _ _ wz => ∃ k : Nat, iv = .int .i64 k ∧ k ≤ x.now.length ∧ RowsAt w3 x.now r1 r2 k wz) (fun _ _ iv _ _ _ => x.now.length - (intOf iv).toNat)
          case atStart => exact ⟨0, rfl, Nat.zero_le _, HRS.out⟩
          case round =>
            obtain ⟨wz, rfl⟩ : ∃ Z, Z = wr := ⟨_, rfl⟩
            obtain ⟨k, rfl, hk, hR⟩ := hrel
            have HR := Lib.hid hR
            clear hR HRS
            have k0 : (0 : Int) ≤ k := by omega
            by_cases hkF : k < x.now.length
            · have hkF' : (k : Int) < (x.now.length : Int) := by omega
              obtain ⟨xn, hxn, hlk⟩ := names_at hkF
              obtain ⟨gN, e, hcN, _, hgN0⟩ := text_at HROW.out hkF
              have hgN := Nat.lt_of_lt_of_le hgN0 HR.out.b.size
              have hcN := (HR.out.b.cell (p := ⟨gN, k, none⟩) hgN0).trans hcN
              subst e
              have hcN' : wz.cell? ⟨gN, k, none⟩ = some (.string ⟨xn.toArray⟩) := by rw [hcN, List.getElem?_map, hxn]; rfl
              clear hcN
              have RD := read_named B d x xn wz (HX3.out.below HR.out.b) hlk
              have HXN := Lib.hid hxn
              clear hxn hlk
              go_upto_region 25 with (fail)
              go_wp2_with (fail)
              refine Calls.mono RD ?_
              rintro y w4 ⟨A4, c4, rfl, hr4, hB4⟩
              have hR4 : RowsAt w3 x.now u10 u11 k w4 := ⟨row_below HR.out.n hB4, row_below HR.out.v hB4, HR.out.ne, HR.out.b.trans (hB4.mono HR.out.b.size)⟩
              have HR4 := Lib.hid hR4
              have hcN4 := bel_cell hB4 hcN'
              have HC4 := Lib.hid hcN4
              have HRY := Lib.hid hr4
              have hgN4 : gN < w4.heap.size := Nat.lt_of_lt_of_le hgN hB4.size
              have S0 := Lib.hid (show w4.cell? ⟨gN, k, none⟩ = some (.string ⟨xn.toArray⟩) ∧ RdY w4 (.slice A4 (valF x.now xn).length c4) (valF x.now xn) ∧ gN < w4.heap.size from ⟨hcN4, hr4, hgN4⟩)
              have HGN := Lib.hid (show gN < w3.heap.size from hgN0)
              clear RD hr4 hB4 hcN4 hcN' HR hgN hgN0
              go_upto_region 28 with (fail)
              generalize hbs : valF x.now xn = bs at *
              have HBS := Lib.hid hbs
              clear hbs
              have hRG : RG w3.heap.size w3 gN k ⟨xn.toArray⟩ (.slice A4 bs.length c4) bs u10 k (((namesF x.now).take k).map Proofs.encStr) u11 k ((((namesF x.now).map (valF x.now)).take k).map Proofs.encStr) w4.drew := RG.drew ⟨HR4.out.n, HR4.out.v, HR4.out.ne, HR4.out.b, HR4.out.b.size, HC4.out, HGN.out, HRY.out⟩
              have HRG := Lib.hid hRG
              have S1 := Lib.hid hRG.held
              have hk20 : k + 1 ≤ 1048576 := by omega
              clear hRG S0 HR4 HRY HC4 hgN4
              refine wp_region_noPanic ?_
              refine wp_region_held_drew (S := (fun w' => S28 gN k ⟨xn.toArray⟩ (.slice A4 bs.length c4) bs w')) (by kernel_rfl) ?_ (fun hHeld => ?_)
              · exact S1.out
              generalize w4.drew = wd at *
              refine reg_take (i := 0) (oi := _) (v := ?_) rfl (by kernel_rfl) (by kernel_rfl) (by kernel_rfl) (fun _ _ _ h => h) (by rfl) ?_ (by assumption) ?_
              rotate_left
              · intro w hSw; (try dsimp only at hSw); have y0 := hSw.1; have y1 := hSw.2.1.conv; have y2 := hSw.2.2; go_simp; try with_reducible rfl
              (try simp only [Act.put, List.setIfInBounds_toArray, List.set_cons_zero, List.set_cons_succ])
              refine reg_take (i := 1) (oi := _) (v := ?_) rfl (by kernel_rfl) (by kernel_rfl) (by kernel_rfl) (fun _ _ _ h => h) (by rfl) ?_ (by assumption) ?_
              rotate_left
              · intro w hSw; (try dsimp only at hSw); have y0 := hSw.1; have y1 := hSw.2.1.conv; have y2 := hSw.2.2; go_simp; try with_reducible rfl
              (try simp only [Act.put, List.setIfInBounds_toArray, List.set_cons_zero, List.set_cons_succ])
              refine reg_take (i := 2) (oi := _) (v := ?_) rfl (by kernel_rfl) (by kernel_rfl) (by kernel_rfl) (fun _ _ _ h => h) (by rfl) ?_ (by assumption) ?_
              rotate_left
              · intro w hSw; (try dsimp only at hSw); have y0 := hSw.1; have y1 := hSw.2.1.conv; have y2 := hSw.2.2; go_simp; try with_reducible rfl
              (try simp only [Act.put, List.setIfInBounds_toArray, List.set_cons_zero, List.set_cons_succ])
              refine reg_take (i := 3) (oi := _) (v := ?_) rfl (by kernel_rfl) (by kernel_rfl) (by kernel_rfl) (fun _ _ _ h => h) (by rfl) ?_ (by assumption) ?_
              rotate_left
              · intro w hSw; (try dsimp only at hSw); have y0 := hSw.1; have y1 := hSw.2.1.conv; have y2 := hSw.2.2; go_simp; try with_reducible rfl
              (try simp only [Act.put, List.setIfInBounds_toArray, List.set_cons_zero, List.set_cons_succ])
              refine reg_take (i := 4) (oi := _) (v := ?_) rfl (by kernel_rfl) (by kernel_rfl) (by kernel_rfl) (fun _ _ _ h => h) (by rfl) ?_ (by assumption) ?_
              rotate_left
              · intro w hSw; (try dsimp only at hSw); have y0 := hSw.1; have y1 := hSw.2.1.conv; have y2 := hSw.2.2; go_simp; try with_reducible rfl
              (try simp only [Act.put, List.setIfInBounds_toArray, List.set_cons_zero, List.set_cons_succ])
              refine reg_take (i := 7) (oi := _) (v := ?_) rfl (by kernel_rfl) (by kernel_rfl) (by kernel_rfl) (fun _ _ _ h => h) (by rfl) ?_ (by assumption) ?_
              rotate_left
              · intro w hSw; (try dsimp only at hSw); have y0 := hSw.1; have y1 := hSw.2.1.conv; have y2 := hSw.2.2; go_simp; try with_reducible rfl
              (try simp only [Act.put, List.setIfInBounds_toArray, List.set_cons_zero, List.set_cons_succ])
              refine reg_take (i := 8) (oi := _) (v := ?_) rfl (by kernel_rfl) (by kernel_rfl) (by kernel_rfl) (fun _ _ _ h => h) (by rfl) ?_ (by assumption) ?_
              rotate_left
              · intro w hSw; (try dsimp only at hSw); have y0 := hSw.1; have y1 := hSw.2.1.conv; have y2 := hSw.2.2; go_simp; try with_reducible rfl
              (try simp only [Act.put, List.setIfInBounds_toArray, List.set_cons_zero, List.set_cons_succ])
              refine reg_take (i := 9) (oi := _) (v := ?_) rfl (by kernel_rfl) (by kernel_rfl) (by kernel_rfl) (fun _ _ _ h => h) (by rfl) ?_ (by assumption) ?_
              rotate_left
              · intro w hSw; (try dsimp only at hSw); have y0 := hSw.1; have y1 := hSw.2.1.conv; have y2 := hSw.2.2; go_simp; try with_reducible rfl
              (try simp only [Act.put, List.setIfInBounds_toArray, List.set_cons_zero, List.set_cons_succ])
              refine wpAnyH_ready (rs := [5, 10]) (by kernel_rfl) (by simp) ?_
              refine reg_each (o := _) rfl (fun K hK => ?_) ?_
              · skip
                go_simp
                refine hK.out _ _ ?_ (fun hHeld2 => ?_)
                · exact (HRG.out.alloc _).held
                clear hK K hHeld
                have hHeld := hHeld2
                clear hHeld2
                (try simp only [Act.put, List.setIfInBounds_toArray, List.set_cons_zero, List.set_cons_succ])
                have RG0 := Lib.hid (HRG.out.alloc (.cells #[.string ⟨xn.toArray⟩] 9))
                have P5 := Lib.hid (new_cell wd ⟨xn.toArray⟩)
                have N5 := Lib.hid HRG.out.no1
                generalize wd.alloc (Obj.cells #[.string ⟨xn.toArray⟩] 9) = wx0 at *
                generalize wd.heap.size = p5 at *
                clear HRG
                refine wpAnyH_ready (rs := [6, 10]) (by kernel_rfl) (by simp) ?_
                refine reg_each (o := _) rfl (fun K hK => ?_) ?_
                · skip
                  refine step_append_t rfl (.tmp 104) (.tmp 109) rfl w3.heap.size u10 k _ ⟨xn.toArray⟩ ⟨p5, 0, none⟩ 1 rfl rfl RG0.out.n P5.out hk20 RG0.out.l ?_
                  intro r6 wq own6 gr6 at6
                  refine hK.out _ _ ?_ (fun hHeld2 => ?_)
                  · exact (RG0.out.app1 own6 gr6 at6).held
                  clear hK K hHeld
                  have hHeld := hHeld2
                  clear hHeld2
                  (try simp only [Act.put, List.setIfInBounds_toArray, List.set_cons_zero, List.set_cons_succ])
                  have RG1 := Lib.hid (RG0.out.app1 own6 gr6 at6)
                  clear own6 gr6 at6 RG0
                  obtain ⟨wx1, hwq⟩ : ∃ z, z = wq := ⟨_, rfl⟩
                  subst hwq
                  refine wpAnyH_ready (rs := [10]) (by kernel_rfl) (by simp) ?_
                  refine reg_each (o := _) rfl (fun K hK => ?_) ?_
                  · skip
                    go_simp
                    refine hK.out _ _ ?_ (fun hHeld2 => ?_)
                    · exact (RG1.out.alloc _).held
                    clear hK K hHeld
                    have hHeld := hHeld2
                    clear hHeld2
                    (try simp only [Act.put, List.setIfInBounds_toArray, List.set_cons_zero, List.set_cons_succ])
                    have RG2 := Lib.hid (RG1.out.alloc (.cells #[.string ⟨bs.toArray⟩] 9))
                    have P10 := Lib.hid (new_cell wx1 ⟨bs.toArray⟩)
                    have N10 := Lib.hid RG1.out.no2
                    generalize wx1.alloc (Obj.cells #[.string ⟨bs.toArray⟩] 9) = wx2 at *
                    generalize wx1.heap.size = p10 at *
                    clear RG1
                    refine wpAnyH_ready (rs := [11]) (by kernel_rfl) (by simp) ?_
                    refine reg_each (o := _) rfl (fun K hK => ?_) ?_
                    · skip
                      refine step_append_t rfl (.tmp 111) (.tmp 114) rfl w3.heap.size u11 k _ ⟨bs.toArray⟩ ⟨p10, 0, none⟩ 1 rfl rfl RG2.out.v P10.out hk20 RG2.out.l ?_
                      intro r11 wq own11 gr11 at11
                      refine hK.out _ _ ?_ (fun hHeld2 => ?_)
                      · exact (RG2.out.app2 own11 gr11 at11).held
                      clear hK K hHeld
                      have hHeld := hHeld2
                      clear hHeld2
                      (try simp only [Act.put, List.setIfInBounds_toArray, List.set_cons_zero, List.set_cons_succ])
                      have RG3 := Lib.hid (RG2.out.app2 own11 gr11 at11)
                      clear own11 gr11 at11 RG2
                      obtain ⟨wx3, hwq⟩ : ∃ z, z = wq := ⟨_, rfl⟩
                      subst hwq
                      refine reg_take (i := 12) (oi := _) (v := ?_) rfl (by kernel_rfl) (by kernel_rfl) (by kernel_rfl) (fun _ _ _ h => h) (by rfl) ?_ (by assumption) ?_
                      rotate_left
                      · intro w hSw; (try dsimp only at hSw); have y0 := hSw.1; have y1 := hSw.2.1.conv; have y2 := hSw.2.2; go_simp; try with_reducible rfl
                      (try simp only [Act.put, List.setIfInBounds_toArray, List.set_cons_zero, List.set_cons_succ])
                      refine reg_take (i := 13) (oi := _) (v := ?_) rfl (by kernel_rfl) (by kernel_rfl) (by kernel_rfl) (fun _ _ _ h => h) (by rfl) ?_ (by assumption) ?_
                      rotate_left
                      · intro w hSw; (try dsimp only at hSw); have y0 := hSw.1; have y1 := hSw.2.1.conv; have y2 := hSw.2.2; go_simp; try with_reducible rfl
                      (try simp only [Act.put, List.setIfInBounds_toArray, List.set_cons_zero, List.set_cons_succ])
                      refine wpAnyH_done (by kernel_rfl) ?_ _
                      refine NoPanic.normal ?_
                      have HNR := Lib.hid (show RowsAt w3 x.now r6 r11 (k + 1) wx3 from ⟨by rw [rows_next HXN.out]; exact RG3.out.n, by rw [rows_next (by rw [List.getElem?_map, HXN.out]; rfl : ((namesF x.now).map (valF x.now))[k]? = some (valF x.now xn)), HBS.out]; exact RG3.out.v, RG3.out.ne, RG3.out.b⟩)
                      clear hHeld RG3
                      go_wp2_with (fail)
                      go_roundw
                      case rel => exact ⟨k + 1, by go_num, by omega, HNR.out⟩
                      case measure => simp [intOf]; omega
                    exact AllReadyH.nil
                  exact AllReadyH.nil
                refine reg_each (o := _) rfl (fun K hK => ?_) ?_
                · skip
                  go_simp
                  refine hK.out _ _ ?_ (fun hHeld2 => ?_)
                  · exact (RG0.out.alloc _).held
                  clear hK K hHeld
                  have hHeld := hHeld2
                  clear hHeld2
                  (try simp only [Act.put, List.setIfInBounds_toArray, List.set_cons_zero, List.set_cons_succ])
                  have RG1 := Lib.hid (RG0.out.alloc (.cells #[.string ⟨bs.toArray⟩] 9))
                  have P10 := Lib.hid (new_cell wx0 ⟨bs.toArray⟩)
                  have N10 := Lib.hid RG0.out.no2
                  have M10 := Lib.hid RG0.out.no1
                  have P5 := Lib.hid (bel_cell ((Below.refl wx0.heap.size wx0).alloc (Nat.le_refl _) (.cells #[.string ⟨bs.toArray⟩] 9)) P5.out)
                  generalize wx0.alloc (Obj.cells #[.string ⟨bs.toArray⟩] 9) = wx1 at *
                  generalize wx0.heap.size = p10 at *
                  clear RG0
                  refine wpAnyH_ready (rs := [6]) (by kernel_rfl) (by simp) ?_
                  refine reg_each (o := _) rfl (fun K hK => ?_) ?_
                  · skip
                    refine step_append_t rfl (.tmp 104) (.tmp 109) rfl w3.heap.size u10 k _ ⟨xn.toArray⟩ ⟨p5, 0, none⟩ 1 rfl rfl RG1.out.n P5.out hk20 RG1.out.l ?_
                    intro r6 wq own6 gr6 at6
                    refine hK.out _ _ ?_ (fun hHeld2 => ?_)
                    · exact (RG1.out.app1 own6 gr6 at6).held
                    clear hK K hHeld
                    have hHeld := hHeld2
                    clear hHeld2
                    (try simp only [Act.put, List.setIfInBounds_toArray, List.set_cons_zero, List.set_cons_succ])
                    have RG2 := Lib.hid (RG1.out.app1 own6 gr6 at6)
                    have P10 := Lib.hid (grown_cell gr6 P10.out M10.out)
                    clear own6 gr6 at6 RG1
                    obtain ⟨wx2, hwq⟩ : ∃ z, z = wq := ⟨_, rfl⟩
                    subst hwq
                    refine wpAnyH_ready (rs := [11]) (by kernel_rfl) (by simp) ?_
                    refine reg_each (o := _) rfl (fun K hK => ?_) ?_
                    · skip
                      refine step_append_t rfl (.tmp 111) (.tmp 114) rfl w3.heap.size u11 k _ ⟨bs.toArray⟩ ⟨p10, 0, none⟩ 1 rfl rfl RG2.out.v P10.out hk20 RG2.out.l ?_
                      intro r11 wq own11 gr11 at11
                      refine hK.out _ _ ?_ (fun hHeld2 => ?_)
                      · exact (RG2.out.app2 own11 gr11 at11).held
                      clear hK K hHeld
                      have hHeld := hHeld2
                      clear hHeld2
                      (try simp only [Act.put, List.setIfInBounds_toArray, List.set_cons_zero, List.set_cons_succ])
                      have RG3 := Lib.hid (RG2.out.app2 own11 gr11 at11)
                      clear own11 gr11 at11 RG2
                      obtain ⟨wx3, hwq⟩ : ∃ z, z = wq := ⟨_, rfl⟩
                      subst hwq
                      refine reg_take (i := 12) (oi := _) (v := ?_) rfl (by kernel_rfl) (by kernel_rfl) (by kernel_rfl) (fun _ _ _ h => h) (by rfl) ?_ (by assumption) ?_
                      rotate_left
                      · intro w hSw; (try dsimp only at hSw); have y0 := hSw.1; have y1 := hSw.2.1.conv; have y2 := hSw.2.2; go_simp; try with_reducible rfl
                      (try simp only [Act.put, List.setIfInBounds_toArray, List.set_cons_zero, List.set_cons_succ])
                      refine reg_take (i := 13) (oi := _) (v := ?_) rfl (by kernel_rfl) (by kernel_rfl) (by kernel_rfl) (fun _ _ _ h => h) (by rfl) ?_ (by assumption) ?_
                      rotate_left
                      · intro w hSw; (try dsimp only at hSw); have y0 := hSw.1; have y1 := hSw.2.1.conv; have y2 := hSw.2.2; go_simp; try with_reducible rfl
                      (try simp only [Act.put, List.setIfInBounds_toArray, List.set_cons_zero, List.set_cons_succ])
                      refine wpAnyH_done (by kernel_rfl) ?_ _
                      refine NoPanic.normal ?_
                      have HNR := Lib.hid (show RowsAt w3 x.now r6 r11 (k + 1) wx3 from ⟨by rw [rows_next HXN.out]; exact RG3.out.n, by rw [rows_next (by rw [List.getElem?_map, HXN.out]; rfl : ((namesF x.now).map (valF x.now))[k]? = some (valF x.now xn)), HBS.out]; exact RG3.out.v, RG3.out.ne, RG3.out.b⟩)
                      clear hHeld RG3
                      go_wp2_with (fail)
                      go_roundw
                      case rel => exact ⟨k + 1, by go_num, by omega, HNR.out⟩
                      case measure => simp [intOf]; omega
                    exact AllReadyH.nil
                  exact AllReadyH.nil
                exact AllReadyH.nil
              refine reg_each (o := _) rfl (fun K hK => ?_) ?_
              · skip
                go_simp
                refine hK.out _ _ ?_ (fun hHeld2 => ?_)
                · exact (HRG.out.alloc _).held
                clear hK K hHeld
                have hHeld := hHeld2
                clear hHeld2
                (try simp only [Act.put, List.setIfInBounds_toArray, List.set_cons_zero, List.set_cons_succ])
                have RG0 := Lib.hid (HRG.out.alloc (.cells #[.string ⟨bs.toArray⟩] 9))
                have P10 := Lib.hid (new_cell wd ⟨bs.toArray⟩)
                have N10 := Lib.hid HRG.out.no2
                have M10 := Lib.hid HRG.out.no1
                generalize wd.alloc (Obj.cells #[.string ⟨bs.toArray⟩] 9) = wx0 at *
                generalize wd.heap.size = p10 at *
                clear HRG
                refine wpAnyH_ready (rs := [5]) (by kernel_rfl) (by simp) ?_
                refine reg_each (o := _) rfl (fun K hK => ?_) ?_
                · skip
                  go_simp
                  refine hK.out _ _ ?_ (fun hHeld2 => ?_)
                  · exact (RG0.out.alloc _).held
                  clear hK K hHeld
                  have hHeld := hHeld2
                  clear hHeld2
                  (try simp only [Act.put, List.setIfInBounds_toArray, List.set_cons_zero, List.set_cons_succ])
                  have RG1 := Lib.hid (RG0.out.alloc (.cells #[.string ⟨xn.toArray⟩] 9))
                  have P5 := Lib.hid (new_cell wx0 ⟨xn.toArray⟩)
                  have N5 := Lib.hid RG0.out.no1
                  have P10 := Lib.hid (bel_cell ((Below.refl wx0.heap.size wx0).alloc (Nat.le_refl _) (.cells #[.string ⟨xn.toArray⟩] 9)) P10.out)
                  generalize wx0.alloc (Obj.cells #[.string ⟨xn.toArray⟩] 9) = wx1 at *
                  generalize wx0.heap.size = p5 at *
                  clear RG0
                  refine wpAnyH_ready (rs := [6]) (by kernel_rfl) (by simp) ?_
                  refine reg_each (o := _) rfl (fun K hK => ?_) ?_
                  · skip
                    refine step_append_t rfl (.tmp 104) (.tmp 109) rfl w3.heap.size u10 k _ ⟨xn.toArray⟩ ⟨p5, 0, none⟩ 1 rfl rfl RG1.out.n P5.out hk20 RG1.out.l ?_
                    intro r6 wq own6 gr6 at6
                    refine hK.out _ _ ?_ (fun hHeld2 => ?_)
                    · exact (RG1.out.app1 own6 gr6 at6).held
                    clear hK K hHeld
                    have hHeld := hHeld2
                    clear hHeld2
                    (try simp only [Act.put, List.setIfInBounds_toArray, List.set_cons_zero, List.set_cons_succ])
                    have RG2 := Lib.hid (RG1.out.app1 own6 gr6 at6)
                    have P10 := Lib.hid (grown_cell gr6 P10.out M10.out)
                    clear own6 gr6 at6 RG1
                    obtain ⟨wx2, hwq⟩ : ∃ z, z = wq := ⟨_, rfl⟩
                    subst hwq
                    refine wpAnyH_ready (rs := [11]) (by kernel_rfl) (by simp) ?_
                    refine reg_each (o := _) rfl (fun K hK => ?_) ?_
                    · skip
                      refine step_append_t rfl (.tmp 111) (.tmp 114) rfl w3.heap.size u11 k _ ⟨bs.toArray⟩ ⟨p10, 0, none⟩ 1 rfl rfl RG2.out.v P10.out hk20 RG2.out.l ?_
                      intro r11 wq own11 gr11 at11
                      refine hK.out _ _ ?_ (fun hHeld2 => ?_)
                      · exact (RG2.out.app2 own11 gr11 at11).held
                      clear hK K hHeld
                      have hHeld := hHeld2
                      clear hHeld2
                      (try simp only [Act.put, List.setIfInBounds_toArray, List.set_cons_zero, List.set_cons_succ])
                      have RG3 := Lib.hid (RG2.out.app2 own11 gr11 at11)
                      clear own11 gr11 at11 RG2
                      obtain ⟨wx3, hwq⟩ : ∃ z, z = wq := ⟨_, rfl⟩
                      subst hwq
                      refine reg_take (i := 12) (oi := _) (v := ?_) rfl (by kernel_rfl) (by kernel_rfl) (by kernel_rfl) (fun _ _ _ h => h) (by rfl) ?_ (by assumption) ?_
                      rotate_left
                      · intro w hSw; (try dsimp only at hSw); have y0 := hSw.1; have y1 := hSw.2.1.conv; have y2 := hSw.2.2; go_simp; try with_reducible rfl
                      (try simp only [Act.put, List.setIfInBounds_toArray, List.set_cons_zero, List.set_cons_succ])
                      refine reg_take (i := 13) (oi := _) (v := ?_) rfl (by kernel_rfl) (by kernel_rfl) (by kernel_rfl) (fun _ _ _ h => h) (by rfl) ?_ (by assumption) ?_
                      rotate_left
                      · intro w hSw; (try dsimp only at hSw); have y0 := hSw.1; have y1 := hSw.2.1.conv; have y2 := hSw.2.2; go_simp; try with_reducible rfl
                      (try simp only [Act.put, List.setIfInBounds_toArray, List.set_cons_zero, List.set_cons_succ])
                      refine wpAnyH_done (by kernel_rfl) ?_ _
                      refine NoPanic.normal ?_
                      have HNR := Lib.hid (show RowsAt w3 x.now r6 r11 (k + 1) wx3 from ⟨by rw [rows_next HXN.out]; exact RG3.out.n, by rw [rows_next (by rw [List.getElem?_map, HXN.out]; rfl : ((namesF x.now).map (valF x.now))[k]? = some (valF x.now xn)), HBS.out]; exact RG3.out.v, RG3.out.ne, RG3.out.b⟩)
                      clear hHeld RG3
                      go_wp2_with (fail)
                      go_roundw
                      case rel => exact ⟨k + 1, by go_num, by omega, HNR.out⟩
                      case measure => simp [intOf]; omega
                    exact AllReadyH.nil
                  exact AllReadyH.nil
                exact AllReadyH.nil
              exact AllReadyH.nil
            · have hkF' : ¬ (k : Int) < (x.now.length : Int) := by omega
              obtain rfl : k = x.now.length := by omega
              have hRN := HR.out.n
              have hRV := HR.out.v
              rw [List.take_of_length_le (by unfold namesF; simp)] at hRN hRV
              have hHX := HX3.out.below HR.out.b
              have hBT := BT3.out.trans (HR.out.b.mono HX3.out.1.lo.2)
              obtain ⟨AM, cM, rfl⟩ := row_form hRN
              obtain ⟨AV, cV, rfl⟩ := row_form hRV
              have HRN := Lib.hid hRN
              have HRV := Lib.hid hRV
              have HX := Lib.hid hHX
              have BT := Lib.hid hBT
              clear hRN hRV hHX hBT HR HX3 BT3 HROW k0 hk hkF hkF'
              generalize w3.heap.size = b3 at *
              have PW := pending_walk B d x.now x.sure x.T wz HX.out.1
              go_upto_region 29 with (fail)
              go_wp2_with (fail)
              refine Calls.mono PW ?_
              rintro y wp ⟨rfl, rfl⟩
              clear PW
              have CF := Lib.hid (crash_all HX.out.2)
              generalize hF : x.now = F at *
              clear hF
              obtain ⟨n, hn⟩ : ∃ n, n = x.T.length := ⟨_, rfl⟩
              have HN := Lib.hid (show n ≤ x.T.length by omega)
              have CF2 := Lib.hid (show crashF x.sure x.T n 0 = F by rw [hn]; exact CF.out)
              rw [← hn]
              clear hn CF
              have CR := crash_fine B d x n F wp HX.out HN.out CF2.out
              have HFL := Lib.hid hF64
              go_upto_region 38 with (fail)
              go_wp2_with (fail)
              refine Calls.mono CR ?_
              rintro y w5 ⟨rfl, ⟨x5, rfl, hx5⟩, hF5⟩
              have PW := pending_walk B d F F [] w5 hx5.1
              have hBT := BT.out.trans hF5.1
              have hRN := hF5.2.texts HRN.out
              have hRV := hF5.2.texts HRV.out
              have HX5 := Lib.hid hx5
              clear CR HX BT HRN HRV hx5 hF5
              have BT := Lib.hid hBT
              have HRN := Lib.hid hRN
              have HRV := Lib.hid hRV
              clear hBT hRN hRV
              go_wp2_with (fail)
              refine Calls.mono PW ?_
              rintro y w6 ⟨rfl, rfl⟩
              clear PW
              have NM := names_walk B d F F [] w6 HX5.out.1
              have HBN := Lib.hid HX5.out.1.lo.2
              go_upto_region 40 with (fail)
              go_wp2_with (fail)
              refine Calls.mono NM ?_
              rintro y w7 ⟨vR, B7, rfl, hB7, hrow, _, hBl7⟩
              obtain ⟨AR, cR, rfl⟩ := row_form hrow
              have hBT := BT.out.trans (hBl7.mono HBN.out)
              have hRN := row_below HRN.out hBl7
              have hRV := row_below HRV.out hBl7
              have hX7 := HX5.out.below hBl7
              clear NM BT HRN HRV HX5 HBN hBl7
              have BT := Lib.hid hBT
              have HRN := Lib.hid hRN
              have HRV := Lib.hid hRV
              have HX7 := Lib.hid hX7
              have HROW := Lib.hid hrow
              have HBL := Lib.hid hX7.1.lo.2
              clear hBT hRN hRV hX7 hrow
              go_upto_region 43 with (fail)
              go_wp2_with (fail)
              go_loopw [20, 21, 22] (fun iv _ _ wy => ∃ q : Nat, iv = .int .i64 q ∧ q ≤ F.length ∧ Below w7.heap.size w7 wy) (fun iv _ _ _ => F.length - (intOf iv).toNat)
              case atStart => exact ⟨0, rfl, by omega, Below.refl _ _⟩
              case round =>
                obtain ⟨wv, rfl⟩ : ∃ Z, Z = wr := ⟨_, rfl⟩
                obtain ⟨q, rfl, hq, hV⟩ := hrel
                have HV := Lib.hid hV
                clear hV
                have q0 : (0 : Int) ≤ q := by omega
                by_cases hql : q < F.length
                · have hql' : (q : Int) < (F.length : Int) := by omega
                  obtain ⟨xn, hxn, hlk⟩ := names_at hql
                  obtain ⟨gR, e, hcR, _, hgR⟩ := text_at HROW.out hql
                  subst e
                  obtain ⟨gM, e, hcM, _, hgM⟩ := text_at HRN.out hql
                  subst e
                  obtain ⟨gV, e, hcV, _, hgV⟩ := text_at HRV.out hql
                  subst e
                  have hcR' : wv.cell? ⟨gR, q, none⟩ = some (.string ⟨xn.toArray⟩) := by rw [HV.out.cell (p := ⟨gR, q, none⟩) hgR, hcR, List.getElem?_map, hxn]; rfl
                  have hcM' : wv.cell? ⟨gM, q, none⟩ = some (.string ⟨xn.toArray⟩) := by rw [HV.out.cell (p := ⟨gM, q, none⟩) hgM, hcM, List.getElem?_map, hxn]; rfl
                  have hcV' : wv.cell? ⟨gV, q, none⟩ = some (.string ⟨(valF F xn).toArray⟩) := by rw [HV.out.cell (p := ⟨gV, q, none⟩) hgV, hcV, List.getElem?_map, List.getElem?_map, hxn]; rfl
                  have zR := Nat.lt_of_lt_of_le hgR HV.out.size
                  have zM := Nat.lt_of_lt_of_le hgM HV.out.size
                  have zV := Nat.lt_of_lt_of_le hgV HV.out.size
                  have RD := read_named B d ⟨F, F, []⟩ xn wv (HX7.out.below HV.out) hlk
                  clear hcR hcM hcV hxn hlk hgR hgM hgV
                  have HCR := Lib.hid hcR'
                  have HCM := Lib.hid hcM'
                  have HCV := Lib.hid hcV'
                  go_upto_region 46 with (fail)
                  go_wp2_with (fail)
                  refine Calls.mono RD ?_
                  rintro y w8 ⟨A8, c8, rfl, hr8, hB8⟩
                  have hcv : ∀ nn : Nat, (convert 35 9 (.slice A8 (valF F xn).length c8)).run Try.prog (w8.drewN nn) = .ok (.string ⟨(valF F xn).toArray⟩) (w8.drewN nn) := fun nn => RdY.conv (RdY.kept hr8 (KeptY.below (below_drewN (Below.refl _ _) nn)))
                  have hcR2 := bel_cell hB8 HCR.out
                  have hcM2 := bel_cell hB8 HCM.out
                  have hcV2 := bel_cell hB8 HCV.out
                  have zR2 := Nat.lt_of_lt_of_le zR hB8.size
                  have zM2 := Nat.lt_of_lt_of_le zM hB8.size
                  have zV2 := Nat.lt_of_lt_of_le zV hB8.size
                  have HV8 := Lib.hid (below_trans HV.out hB8)
                  try dsimp only at hcv
                  clear RD hr8 hB8 HCR HCM HCV hcR' hcM' hcV' zR zM zV HV
                  generalize valF F xn = bs at *
                  go_upto_region 47 with (fail)
                  go_quiet (fail)
                  have HV9 := Lib.hid (below_drewN HV8.out nq)
                  clear HV8 hcR2 hcM2 hcV2 zR2 zM2 zV2 hcv
                  go_wp2_with (fail)
                  go_roundw
                  case rel => exact ⟨q + 1, by go_num, by omega, HV9.out⟩
                  case measure => simp [intOf]; omega
                · have hql' : ¬ (q : Int) < (F.length : Int) := by omega
                  have SW := sure_walk wv
                  have hBT := HB1.out.trans (BT.out.trans (HV.out.mono HBL.out))
                  have HBT := Lib.hid hBT
                  have HBV := Lib.hid (Nat.le_trans HBL.out HV.out.size)
                  clear hBT
                  go_wp2_with (fail)
                  refine Calls.mono SW ?_
                  rintro y w9 ⟨rfl, hB9⟩
                  have HF := Lib.hid (show Below B w w9 from HBT.out.trans (hB9.mono HBV.out))
                  clear SW hB9
                  go_wp2_with (fail)
                  go_ret
                  exact ⟨rfl, by rw [hB]; exact HF.out⟩
        | false =>
          have HX0 := Lib.hid hx
          have BT0 := Lib.hid hBT
          have SY := sure2 B d x wl hx
          clear hI1 hx hBT HI
          go_upto_region 19 with (fail)
          go_wp2_with (fail)
          refine Calls.mono SY ?_
          rintro y wn ⟨rfl, ⟨x2, rfl, hx2⟩, hF2⟩
          obtain ⟨F, hFF⟩ : ∃ F, F = x.now := ⟨_, rfl⟩
          rw [← hFF] at hx2
          obtain ⟨x, hxe⟩ : ∃ q : FS, q = ⟨F, F, []⟩ := ⟨_, rfl⟩
          rw [← hxe] at hx2
          have HX := Lib.hid hx2
          have BT := Lib.hid (BT0.out.trans hF2.1)
          have HSU := Lib.hid (show x.sure = x.now from by rw [hxe])
          clear SY hx2 hF2 hFF hxe HX0 BT0
          have NM := names_walk B d x.now x.sure x.T wn HX.out.1
          have HBN := Lib.hid HX.out.1.lo.2
          go_upto_region 21 with (fail)
          go_wp2_with (fail)
          refine Calls.mono NM ?_
          rintro y w3 ⟨vN, B0, rfl, hB0, hrow, _, hB3⟩
          have HX3 := Lib.hid (HX.out.below hB3)
          have BT3 := Lib.hid (BT.out.trans (hB3.mono HBN.out))
          obtain ⟨AN, cN, rfl⟩ := row_form hrow
          have HROW := Lib.hid hrow
          clear NM hrow hB3 HX BT HBN
          have hF64 := HX3.out.1.an.2
          have hRS := RowsAt.start w3 x.now
          have HRS := Lib.hid hRS
          clear hRS
          go_upto_region 22 with (fail)
          go_wp2_with (fail)
          go_loopw [10, 11, 13, 14, 15] (fun r1 r2 iv _ _ wz => ∃ k : Nat, iv = .int .i64 k ∧ k ≤ x.now.length ∧ RowsAt w3 x.now r1 r2 k wz) (fun _ _ iv _ _ _ => x.now.length - (intOf iv).toNat)
          case atStart => exact ⟨0, rfl, Nat.zero_le _, HRS.out⟩
          case round =>
            obtain ⟨wz, rfl⟩ : ∃ Z, Z = wr := ⟨_, rfl⟩
            obtain ⟨k, rfl, hk, hR⟩ := hrel
            have HR := Lib.hid hR
            clear hR HRS
            have k0 : (0 : Int) ≤ k := by omega
            by_cases hkF : k < x.now.length
            · have hkF' : (k : Int) < (x.now.length : Int) := by omega
              obtain ⟨xn, hxn, hlk⟩ := names_at hkF
              obtain ⟨gN, e, hcN, _, hgN0⟩ := text_at HROW.out hkF
              have hgN := Nat.lt_of_lt_of_le hgN0 HR.out.b.size
              have hcN := (HR.out.b.cell (p := ⟨gN, k, none⟩) hgN0).trans hcN
              subst e
              have hcN' : wz.cell? ⟨gN, k, none⟩ = some (.string ⟨xn.toArray⟩) := by rw [hcN, List.getElem?_map, hxn]; rfl
              clear hcN
              have RD := read_named B d x xn wz (HX3.out.below HR.out.b) hlk
              have HXN := Lib.hid hxn
              clear hxn hlk
              go_upto_region 25 with (fail)
              go_wp2_with (fail)
              refine Calls.mono RD ?_
              rintro y w4 ⟨A4, c4, rfl, hr4, hB4⟩
              have hR4 : RowsAt w3 x.now u10 u11 k w4 := ⟨row_below HR.out.n hB4, row_below HR.out.v hB4, HR.out.ne, HR.out.b.trans (hB4.mono HR.out.b.size)⟩
              have HR4 := Lib.hid hR4
              have hcN4 := bel_cell hB4 hcN'
              have HC4 := Lib.hid hcN4
              have HRY := Lib.hid hr4
              have hgN4 : gN < w4.heap.size := Nat.lt_of_lt_of_le hgN hB4.size
              have S0 := Lib.hid (show w4.cell? ⟨gN, k, none⟩ = some (.string ⟨xn.toArray⟩) ∧ RdY w4 (.slice A4 (valF x.now xn).length c4) (valF x.now xn) ∧ gN < w4.heap.size from ⟨hcN4, hr4, hgN4⟩)
              have HGN := Lib.hid (show gN < w3.heap.size from hgN0)
              clear RD hr4 hB4 hcN4 hcN' HR hgN hgN0
              go_upto_region 28 with (fail)
              generalize hbs : valF x.now xn = bs at *
              have HBS := Lib.hid hbs
              clear hbs
              have hRG : RG w3.heap.size w3 gN k ⟨xn.toArray⟩ (.slice A4 bs.length c4) bs u10 k (((namesF x.now).take k).map Proofs.encStr) u11 k ((((namesF x.now).map (valF x.now)).take k).map Proofs.encStr) w4.drew := RG.drew ⟨HR4.out.n, HR4.out.v, HR4.out.ne, HR4.out.b, HR4.out.b.size, HC4.out, HGN.out, HRY.out⟩
              have HRG := Lib.hid hRG
              have S1 := Lib.hid hRG.held
              have hk20 : k + 1 ≤ 1048576 := by omega
              clear hRG S0 HR4 HRY HC4 hgN4
              refine wp_region_noPanic ?_
              refine wp_region_held_drew (S := (fun w' => S28 gN k ⟨xn.toArray⟩ (.slice A4 bs.length c4) bs w')) (by kernel_rfl) ?_ (fun hHeld => ?_)
              · exact S1.out
              generalize w4.drew = wd at *
              refine reg_take (i := 0) (oi := _) (v := ?_) rfl (by kernel_rfl) (by kernel_rfl) (by kernel_rfl) (fun _ _ _ h => h) (by rfl) ?_ (by assumption) ?_
              rotate_left
              · intro w hSw; (try dsimp only at hSw); have y0 := hSw.1; have y1 := hSw.2.1.conv; have y2 := hSw.2.2; go_simp; try with_reducible rfl
              (try simp only [Act.put, List.setIfInBounds_toArray, List.set_cons_zero, List.set_cons_succ])
              refine reg_take (i := 1) (oi := _) (v := ?_) rfl (by kernel_rfl) (by kernel_rfl) (by kernel_rfl) (fun _ _ _ h => h) (by rfl) ?_ (by assumption) ?_
              rotate_left
              · intro w hSw; (try dsimp only at hSw); have y0 := hSw.1; have y1 := hSw.2.1.conv; have y2 := hSw.2.2; go_simp; try with_reducible rfl
              (try simp only [Act.put, List.setIfInBounds_toArray, List.set_cons_zero, List.set_cons_succ])
              refine reg_take (i := 2) (oi := _) (v := ?_) rfl (by kernel_rfl) (by kernel_rfl) (by kernel_rfl) (fun _ _ _ h => h) (by rfl) ?_ (by assumption) ?_
              rotate_left
              · intro w hSw; (try dsimp only at hSw); have y0 := hSw.1; have y1 := hSw.2.1.conv; have y2 := hSw.2.2; go_simp; try with_reducible rfl
              (try simp only [Act.put, List.setIfInBounds_toArray, List.set_cons_zero, List.set_cons_succ])
              refine reg_take (i := 3) (oi := _) (v := ?_) rfl (by kernel_rfl) (by kernel_rfl) (by kernel_rfl) (fun _ _ _ h => h) (by rfl) ?_ (by assumption) ?_
              rotate_left
              · intro w hSw; (try dsimp only at hSw); have y0 := hSw.1; have y1 := hSw.2.1.conv; have y2 := hSw.2.2; go_simp; try with_reducible rfl
              (try simp only [Act.put, List.setIfInBounds_toArray, List.set_cons_zero, List.set_cons_succ])
              refine reg_take (i := 4) (oi := _) (v := ?_) rfl (by kernel_rfl) (by kernel_rfl) (by kernel_rfl) (fun _ _ _ h => h) (by rfl) ?_ (by assumption) ?_
              rotate_left
              · intro w hSw; (try dsimp only at hSw); have y0 := hSw.1; have y1 := hSw.2.1.conv; have y2 := hSw.2.2; go_simp; try with_reducible rfl
              (try simp only [Act.put, List.setIfInBounds_toArray, List.set_cons_zero, List.set_cons_succ])
              refine reg_take (i := 7) (oi := _) (v := ?_) rfl (by kernel_rfl) (by kernel_rfl) (by kernel_rfl) (fun _ _ _ h => h) (by rfl) ?_ (by assumption) ?_
              rotate_left
              · intro w hSw; (try dsimp only at hSw); have y0 := hSw.1; have y1 := hSw.2.1.conv; have y2 := hSw.2.2; go_simp; try with_reducible rfl
              (try simp only [Act.put, List.setIfInBounds_toArray, List.set_cons_zero, List.set_cons_succ])
              refine reg_take (i := 8) (oi := _) (v := ?_) rfl (by kernel_rfl) (by kernel_rfl) (by kernel_rfl) (fun _ _ _ h => h) (by rfl) ?_ (by assumption) ?_
              rotate_left
              · intro w hSw; (try dsimp only at hSw); have y0 := hSw.1; have y1 := hSw.2.1.conv; have y2 := hSw.2.2; go_simp; try with_reducible rfl
              (try simp only [Act.put, List.setIfInBounds_toArray, List.set_cons_zero, List.set_cons_succ])
              refine reg_take (i := 9) (oi := _) (v := ?_) rfl (by kernel_rfl) (by kernel_rfl) (by kernel_rfl) (fun _ _ _ h => h) (by rfl) ?_ (by assumption) ?_
              rotate_left
              · intro w hSw; (try dsimp only at hSw); have y0 := hSw.1; have y1 := hSw.2.1.conv; have y2 := hSw.2.2; go_simp; try with_reducible rfl
              (try simp only [Act.put, List.setIfInBounds_toArray, List.set_cons_zero, List.set_cons_succ])
              refine wpAnyH_ready (rs := [5, 10]) (by kernel_rfl) (by simp) ?_
              refine reg_each (o := _) rfl (fun K hK => ?_) ?_
              · skip
                go_simp
                refine hK.out _ _ ?_ (fun hHeld2 => ?_)
                · exact (HRG.out.alloc _).held
                clear hK K hHeld
                have hHeld := hHeld2
                clear hHeld2
                (try simp only [Act.put, List.setIfInBounds_toArray, List.set_cons_zero, List.set_cons_succ])
                have RG0 := Lib.hid (HRG.out.alloc (.cells #[.string ⟨xn.toArray⟩] 9))
                have P5 := Lib.hid (new_cell wd ⟨xn.toArray⟩)
                have N5 := Lib.hid HRG.out.no1
                generalize wd.alloc (Obj.cells #[.string ⟨xn.toArray⟩] 9) = wx0 at *
                generalize wd.heap.size = p5 at *
                clear HRG
                refine wpAnyH_ready (rs := [6, 10]) (by kernel_rfl) (by simp) ?_
                refine reg_each (o := _) rfl (fun K hK => ?_) ?_
                · skip
                  refine step_append_t rfl (.tmp 104) (.tmp 109) rfl w3.heap.size u10 k _ ⟨xn.toArray⟩ ⟨p5, 0, none⟩ 1 rfl rfl RG0.out.n P5.out hk20 RG0.out.l ?_
                  intro r6 wq own6 gr6 at6
                  refine hK.out _ _ ?_ (fun hHeld2 => ?_)
                  · exact (RG0.out.app1 own6 gr6 at6).held
                  clear hK K hHeld
                  have hHeld := hHeld2
                  clear hHeld2
                  (try simp only [Act.put, List.setIfInBounds_toArray, List.set_cons_zero, List.set_cons_succ])
                  have RG1 := Lib.hid (RG0.out.app1 own6 gr6 at6)
                  clear own6 gr6 at6 RG0
                  obtain ⟨wx1, hwq⟩ : ∃ z, z = wq := ⟨_, rfl⟩
                  subst hwq
                  refine wpAnyH_ready (rs := [10]) (by kernel_rfl) (by simp) ?_
                  refine reg_each (o := _) rfl (fun K hK => ?_) ?_
                  · skip
                    go_simp
                    refine hK.out _ _ ?_ (fun hHeld2 => ?_)
                    · exact (RG1.out.alloc _).held
                    clear hK K hHeld
                    have hHeld := hHeld2
                    clear hHeld2
                    (try simp only [Act.put, List.setIfInBounds_toArray, List.set_cons_zero, List.set_cons_succ])
                    have RG2 := Lib.hid (RG1.out.alloc (.cells #[.string ⟨bs.toArray⟩] 9))
                    have P10 := Lib.hid (new_cell wx1 ⟨bs.toArray⟩)
                    have N10 := Lib.hid RG1.out.no2
                    generalize wx1.alloc (Obj.cells #[.string ⟨bs.toArray⟩] 9) = wx2 at *
                    generalize wx1.heap.size = p10 at *
                    clear RG1
                    refine wpAnyH_ready (rs := [11]) (by kernel_rfl) (by simp) ?_
                    refine reg_each (o := _) rfl (fun K hK => ?_) ?_
                    · skip
                      refine step_append_t rfl (.tmp 111) (.tmp 114) rfl w3.heap.size u11 k _ ⟨bs.toArray⟩ ⟨p10, 0, none⟩ 1 rfl rfl RG2.out.v P10.out hk20 RG2.out.l ?_
                      intro r11 wq own11 gr11 at11
                      refine hK.out _ _ ?_ (fun hHeld2 => ?_)
                      · exact (RG2.out.app2 own11 gr11 at11).held
                      clear hK K hHeld
                      have hHeld := hHeld2
                      clear hHeld2
                      (try simp only [Act.put, List.setIfInBounds_toArray, List.set_cons_zero, List.set_cons_succ])
                      have RG3 := Lib.hid (RG2.out.app2 own11 gr11 at11)
                      clear own11 gr11 at11 RG2
                      obtain ⟨wx3, hwq⟩ : ∃ z, z = wq := ⟨_, rfl⟩
                      subst hwq
                      refine reg_take (i := 12) (oi := _) (v := ?_) rfl (by kernel_rfl) (by kernel_rfl) (by kernel_rfl) (fun _ _ _ h => h) (by rfl) ?_ (by assumption) ?_
                      rotate_left
                      · intro w hSw; (try dsimp only at hSw); have y0 := hSw.1; have y1 := hSw.2.1.conv; have y2 := hSw.2.2; go_simp; try with_reducible rfl
                      (try simp only [Act.put, List.setIfInBounds_toArray, List.set_cons_zero, List.set_cons_succ])
                      refine reg_take (i := 13) (oi := _) (v := ?_) rfl (by kernel_rfl) (by kernel_rfl) (by kernel_rfl) (fun _ _ _ h => h) (by rfl) ?_ (by assumption) ?_
                      rotate_left
                      · intro w hSw; (try dsimp only at hSw); have y0 := hSw.1; have y1 := hSw.2.1.conv; have y2 := hSw.2.2; go_simp; try with_reducible rfl
                      (try simp only [Act.put, List.setIfInBounds_toArray, List.set_cons_zero, List.set_cons_succ])
                      refine wpAnyH_done (by kernel_rfl) ?_ _
                      refine NoPanic.normal ?_
                      have HNR := Lib.hid (show RowsAt w3 x.now r6 r11 (k + 1) wx3 from ⟨by rw [rows_next HXN.out]; exact RG3.out.n, by rw [rows_next (by rw [List.getElem?_map, HXN.out]; rfl : ((namesF x.now).map (valF x.now))[k]? = some (valF x.now xn)), HBS.out]; exact RG3.out.v, RG3.out.ne, RG3.out.b⟩)
                      clear hHeld RG3
                      go_wp2_with (fail)
                      go_roundw
                      case rel => exact ⟨k + 1, by go_num, by omega, HNR.out⟩
                      case measure => simp [intOf]; omega
                    exact AllReadyH.nil
                  exact AllReadyH.nil
                refine reg_each (o := _) rfl (fun K hK => ?_) ?_
                · skip
                  go_simp
                  refine hK.out _ _ ?_ (fun hHeld2 => ?_)
                  · exact (RG0.out.alloc _).held
                  clear hK K hHeld
                  have hHeld := hHeld2
                  clear hHeld2
                  (try simp only [Act.put, List.setIfInBounds_toArray, List.set_cons_zero, List.set_cons_succ])
                  have RG1 := Lib.hid (RG0.out.alloc (.cells #[.string ⟨bs.toArray⟩] 9))
                  have P10 := Lib.hid (new_cell wx0 ⟨bs.toArray⟩)
                  have N10 := Lib.hid RG0.out.no2
                  have M10 := Lib.hid RG0.out.no1
                  have P5 := Lib.hid (bel_cell ((Below.refl wx0.heap.size wx0).alloc (Nat.le_refl _) (.cells #[.string ⟨bs.toArray⟩] 9)) P5.out)
                  generalize wx0.alloc (Obj.cells #[.string ⟨bs.toArray⟩] 9) = wx1 at *
                  generalize wx0.heap.size = p10 at *
                  clear RG0
                  refine wpAnyH_ready (rs := [6]) (by kernel_rfl) (by simp) ?_
                  refine reg_each (o := _) rfl (fun K hK => ?_) ?_
                  · skip
                    refine step_append_t rfl (.tmp 104) (.tmp 109) rfl w3.heap.size u10 k _ ⟨xn.toArray⟩ ⟨p5, 0, none⟩ 1 rfl rfl RG1.out.n P5.out hk20 RG1.out.l ?_
                    intro r6 wq own6 gr6 at6
                    refine hK.out _ _ ?_ (fun hHeld2 => ?_)
                    · exact (RG1.out.app1 own6 gr6 at6).held
                    clear hK K hHeld
                    have hHeld := hHeld2
                    clear hHeld2
                    (try simp only [Act.put, List.setIfInBounds_toArray, List.set_cons_zero, List.set_cons_succ])
                    have RG2 := Lib.hid (RG1.out.app1 own6 gr6 at6)
                    have P10 := Lib.hid (grown_cell gr6 P10.out M10.out)
                    clear own6 gr6 at6 RG1
                    obtain ⟨wx2, hwq⟩ : ∃ z, z = wq := ⟨_, rfl⟩
                    subst hwq
                    refine wpAnyH_ready (rs := [11]) (by kernel_rfl) (by simp) ?_
                    refine reg_each (o := _) rfl (fun K hK => ?_) ?_
                    · skip
                      refine step_append_t rfl (.tmp 111) (.tmp 114) rfl w3.heap.size u11 k _ ⟨bs.toArray⟩ ⟨p10, 0, none⟩ 1 rfl rfl RG2.out.v P10.out hk20 RG2.out.l ?_
                      intro r11 wq own11 gr11 at11
                      refine hK.out _ _ ?_ (fun hHeld2 => ?_)
                      · exact (RG2.out.app2 own11 gr11 at11).held
                      clear hK K hHeld
                      have hHeld := hHeld2
                      clear hHeld2
                      (try simp only [Act.put, List.setIfInBounds_toArray, List.set_cons_zero, List.set_cons_succ])
                      have RG3 := Lib.hid (RG2.out.app2 own11 gr11 at11)
                      clear own11 gr11 at11 RG2
                      obtain ⟨wx3, hwq⟩ : ∃ z, z = wq := ⟨_, rfl⟩
                      subst hwq
                      refine reg_take (i := 12) (oi := _) (v := ?_) rfl (by kernel_rfl) (by kernel_rfl) (by kernel_rfl) (fun _ _ _ h => h) (by rfl) ?_ (by assumption) ?_
                      rotate_left
                      · intro w hSw; (try dsimp only at hSw); have y0 := hSw.1; have y1 := hSw.2.1.conv; have y2 := hSw.2.2; go_simp; try with_reducible rfl
                      (try simp only [Act.put, List.setIfInBounds_toArray, List.set_cons_zero, List.set_cons_succ])
                      refine reg_take (i := 13) (oi := _) (v := ?_) rfl (by kernel_rfl) (by kernel_rfl) (by kernel_rfl) (fun _ _ _ h => h) (by rfl) ?_ (by assumption) ?_
                      rotate_left
                      · intro w hSw; (try dsimp only at hSw); have y0 := hSw.1; have y1 := hSw.2.1.conv; have y2 := hSw.2.2; go_simp; try with_reducible rfl
                      (try simp only [Act.put, List.setIfInBounds_toArray, List.set_cons_zero, List.set_cons_succ])
                      refine wpAnyH_done (by kernel_rfl) ?_ _
                      refine NoPanic.normal ?_
                      have HNR := Lib.hid (show RowsAt w3 x.now r6 r11 (k + 1) wx3 from ⟨by rw [rows_next HXN.out]; exact RG3.out.n, by rw [rows_next (by rw [List.getElem?_map, HXN.out]; rfl : ((namesF x.now).map (valF x.now))[k]? = some (valF x.now xn)), HBS.out]; exact RG3.out.v, RG3.out.ne, RG3.out.b⟩)
                      clear hHeld RG3
                      go_wp2_with (fail)
                      go_roundw
                      case rel => exact ⟨k + 1, by go_num, by omega, HNR.out⟩
                      case measure => simp [intOf]; omega
                    exact AllReadyH.nil
                  exact AllReadyH.nil
                exact AllReadyH.nil
              refine reg_each (o := _) rfl (fun K hK => ?_) ?_
              · skip
                go_simp
                refine hK.out _ _ ?_ (fun hHeld2 => ?_)
                · exact (HRG.out.alloc _).held
                clear hK K hHeld
                have hHeld := hHeld2
                clear hHeld2
                (try simp only [Act.put, List.setIfInBounds_toArray, List.set_cons_zero, List.set_cons_succ])
                have RG0 := Lib.hid (HRG.out.alloc (.cells #[.string ⟨bs.toArray⟩] 9))
                have P10 := Lib.hid (new_cell wd ⟨bs.toArray⟩)
                have N10 := Lib.hid HRG.out.no2
                have M10 := Lib.hid HRG.out.no1
                generalize wd.alloc (Obj.cells #[.string ⟨bs.toArray⟩] 9) = wx0 at *
                generalize wd.heap.size = p10 at *
                clear HRG
                refine wpAnyH_ready (rs := [5]) (by kernel_rfl) (by simp) ?_
                refine reg_each (o := _) rfl (fun K hK => ?_) ?_
                · skip
                  go_simp
                  refine hK.out _ _ ?_ (fun hHeld2 => ?_)
                  · exact (RG0.out.alloc _).held
                  clear hK K hHeld
                  have hHeld := hHeld2
                  clear hHeld2
                  (try simp only [Act.put, List.setIfInBounds_toArray, List.set_cons_zero, List.set_cons_succ])
                  have RG1 := Lib.hid (RG0.out.alloc (.cells #[.string ⟨xn.toArray⟩] 9))
                  have P5 := Lib.hid (new_cell wx0 ⟨xn.toArray⟩)
                  have N5 := Lib.hid RG0.out.no1
                  have P10 := Lib.hid (bel_cell ((Below.refl wx0.heap.size wx0).alloc (Nat.le_refl _) (.cells #[.string ⟨xn.toArray⟩] 9)) P10.out)
                  generalize wx0.alloc (Obj.cells #[.string ⟨xn.toArray⟩] 9) = wx1 at *
                  generalize wx0.heap.size = p5 at *
                  clear RG0
                  refine wpAnyH_ready (rs := [6]) (by kernel_rfl) (by simp) ?_
                  refine reg_each (o := _) rfl (fun K hK => ?_) ?_
                  · skip
                    refine step_append_t rfl (.tmp 104) (.tmp 109) rfl w3.heap.size u10 k _ ⟨xn.toArray⟩ ⟨p5, 0, none⟩ 1 rfl rfl RG1.out.n P5.out hk20 RG1.out.l ?_
                    intro r6 wq own6 gr6 at6
                    refine hK.out _ _ ?_ (fun hHeld2 => ?_)
                    · exact (RG1.out.app1 own6 gr6 at6).held
                    clear hK K hHeld
                    have hHeld := hHeld2
                    clear hHeld2
                    (try simp only [Act.put, List.setIfInBounds_toArray, List.set_cons_zero, List.set_cons_succ])
                    have RG2 := Lib.hid (RG1.out.app1 own6 gr6 at6)
                    have P10 := Lib.hid (grown_cell gr6 P10.out M10.out)
                    clear own6 gr6 at6 RG1
                    obtain ⟨wx2, hwq⟩ : ∃ z, z = wq := ⟨_, rfl⟩
                    subst hwq
                    refine wpAnyH_ready (rs := [11]) (by kernel_rfl) (by simp) ?_
                    refine reg_each (o := _) rfl (fun K hK => ?_) ?_
                    · skip
                      refine step_append_t rfl (.tmp 111) (.tmp 114) rfl w3.heap.size u11 k _ ⟨bs.toArray⟩ ⟨p10, 0, none⟩ 1 rfl rfl RG2.out.v P10.out hk20 RG2.out.l ?_
                      intro r11 wq own11 gr11 at11
                      refine hK.out _ _ ?_ (fun hHeld2 => ?_)
                      · exact (RG2.out.app2 own11 gr11 at11).held
                      clear hK K hHeld
                      have hHeld := hHeld2
                      clear hHeld2
                      (try simp only [Act.put, List.setIfInBounds_toArray, List.set_cons_zero, List.set_cons_succ])
                      have RG3 := Lib.hid (RG2.out.app2 own11 gr11 at11)
                      clear own11 gr11 at11 RG2
                      obtain ⟨wx3, hwq⟩ : ∃ z, z = wq := ⟨_, rfl⟩
                      subst hwq
                      refine reg_take (i := 12) (oi := _) (v := ?_) rfl (by kernel_rfl) (by kernel_rfl) (by kernel_rfl) (fun _ _ _ h => h) (by rfl) ?_ (by assumption) ?_
                      rotate_left
                      · intro w hSw; (try dsimp only at hSw); have y0 := hSw.1; have y1 := hSw.2.1.conv; have y2 := hSw.2.2; go_simp; try with_reducible rfl
                      (try simp only [Act.put, List.setIfInBounds_toArray, List.set_cons_zero, List.set_cons_succ])
                      refine reg_take (i := 13) (oi := _) (v := ?_) rfl (by kernel_rfl) (by kernel_rfl) (by kernel_rfl) (fun _ _ _ h => h) (by rfl) ?_ (by assumption) ?_
                      rotate_left
                      · intro w hSw; (try dsimp only at hSw); have y0 := hSw.1; have y1 := hSw.2.1.conv; have y2 := hSw.2.2; go_simp; try with_reducible rfl
                      (try simp only [Act.put, List.setIfInBounds_toArray, List.set_cons_zero, List.set_cons_succ])
                      refine wpAnyH_done (by kernel_rfl) ?_ _
                      refine NoPanic.normal ?_
                      have HNR := Lib.hid (show RowsAt w3 x.now r6 r11 (k + 1) wx3 from ⟨by rw [rows_next HXN.out]; exact RG3.out.n, by rw [rows_next (by rw [List.getElem?_map, HXN.out]; rfl : ((namesF x.now).map (valF x.now))[k]? = some (valF x.now xn)), HBS.out]; exact RG3.out.v, RG3.out.ne, RG3.out.b⟩)
                      clear hHeld RG3
                      go_wp2_with (fail)
                      go_roundw
                      case rel => exact ⟨k + 1, by go_num, by omega, HNR.out⟩
                      case measure => simp [intOf]; omega
                    exact AllReadyH.nil
                  exact AllReadyH.nil
                exact AllReadyH.nil
              exact AllReadyH.nil
            · have hkF' : ¬ (k : Int) < (x.now.length : Int) := by omega
              obtain rfl : k = x.now.length := by omega
              have hRN := HR.out.n
              have hRV := HR.out.v
              rw [List.take_of_length_le (by unfold namesF; simp)] at hRN hRV
              have hHX := HX3.out.below HR.out.b
              have hBT := BT3.out.trans (HR.out.b.mono HX3.out.1.lo.2)
              obtain ⟨AM, cM, rfl⟩ := row_form hRN
              obtain ⟨AV, cV, rfl⟩ := row_form hRV
              have HRN := Lib.hid hRN
              have HRV := Lib.hid hRV
              have HX := Lib.hid hHX
              have BT := Lib.hid hBT
              clear hRN hRV hHX hBT HR HX3 BT3 HROW k0 hk hkF hkF'
              generalize w3.heap.size = b3 at *
              have PW := pending_walk B d x.now x.sure x.T wz HX.out.1
              go_upto_region 29 with (fail)
              go_wp2_with (fail)
              refine Calls.mono PW ?_
              rintro y wp ⟨rfl, rfl⟩
              clear PW
              have HLJ := Lib.hid (show LoJ B d x.now wp wp from ⟨Fr.refl _ _, x, HX.out, HSU.out⟩)
              clear HX HSU
              generalize hF : x.now = F at *
              clear hF
              go_upto_region 31 with (fail)
              go_wp2_with (fail)
              go_loopw [17, 18] (fun iv _ wy => ∃ k : Nat, iv = .int .i64 k ∧ k ≤ 30 ∧ LoJ B d F wp wy) (fun iv _ _ => 30 - (intOf iv).toNat)
              case atStart => exact ⟨0, rfl, by omega, HLJ.out⟩
              case round =>
                obtain ⟨wy, rfl⟩ : ∃ Z, Z = wr := ⟨_, rfl⟩
                obtain ⟨k, rfl, hk, hJ⟩ := hrel
                have HJ := Lib.hid hJ
                clear hJ HLJ
                have k0 : (0 : Int) ≤ k := by omega
                by_cases hkl : k < L2.length
                · have hkl' : (k : Int) < (L2.length : Int) := by omega
                  by_cases hk30 : k < 30
                  · have hk30' : (k : Int) < 30 := by omega
                    obtain ⟨g, o, rfl, ha⟩ := (HA2.out.below (BT.out.trans HJ.out.1.1) (Nat.le_refl _)).at_ hkl
                    generalize L2.getD k ac0 = a at *
                    obtain ⟨kind, name, dst, b, st, pt⟩ := a
                    obtain ⟨x0, x1, x2, x3, x4c, x5c⟩ := ha
                    dsimp only at x0 x1 x2 x3 x4c x5c
                    have zg := World.block_lt_of_cell? _ _ x0
                    have hmod : ((IntKind.u64.wrap kind).tmod 6) = acM (⟨kind, name, dst, b, st, pt⟩ : Ac) := rfl
                    have hm := acM_bd (⟨kind, name, dst, b, st, pt⟩ : Ac)
                    have hmw : IntKind.i64.wrap (acM (⟨kind, name, dst, b, st, pt⟩ : Ac)) = acM (⟨kind, name, dst, b, st, pt⟩ : Ac) := by rw [IntKind.wrap_i64]; omega
                    obtain ⟨m, hmm⟩ : ∃ m, acM (⟨kind, name, dst, b, st, pt⟩ : Ac) = m := ⟨_, rfl⟩
                    rw [hmm] at hmod hm hmw
                    by_cases hm4 : m < 4
                    · have HMM := Lib.hid (show acM (⟨kind, name, dst, b, st, pt⟩ : Ac) < 4 by rw [hmm]; exact hm4)
                      clear hmm
                      by_cases hlong : b.size ≤ 3000
                      · have hlong' : (b.size : Int) ≤ 3000 := by omega
                        obtain ⟨hfr, x4, hx4, hs4⟩ := HJ.out
                        have hm4n : acM (⟨kind, name, dst, b, st, pt⟩ : Ac) ≠ 4 := by have := HMM.out; omega
                        have CW := act_walk B d (⟨kind, name, dst, b, st, pt⟩ : Ac) (by show b.size ≤ 1000000; omega) x4 wy hx4
                        have HFR := Lib.hid hfr
                        have HS4 := Lib.hid hs4
                        have HM4 := Lib.hid hm4n
                        clear hfr hx4 hs4 hm4n HJ
                        go_wp2_with (fail)
                        refine Calls.mono CW ?_
                        rintro y w5 ⟨rfl, ⟨x5, hd5, hx5⟩, hF5⟩
                        have HNX := Lib.hid (show LoJ B d F wp w5 from ⟨HFR.out.trans hF5, x5, hx5, (do_sure hd5 HM4.out).trans HS4.out⟩)
                        clear CW hd5 hx5 hF5 x0 x1 x2 x3 x4c x5c
                        go_wp2_with (fail)
                        go_roundw
                        case rel => exact ⟨k + 1, by go_num, by omega, HNX.out⟩
                        case measure => simp [intOf]; omega
                      · have hlong' : ¬ (b.size : Int) ≤ 3000 := by omega
                        clear HMM
                        go_wp2_with (fail)
                        go_roundw
                        case rel => exact ⟨k + 1, by go_num, by omega, HJ.out⟩
                        case measure => simp [intOf]; omega
                    · clear hmm
                      go_wp2_with (fail)
                      go_roundw
                      case rel => exact ⟨k + 1, by go_num, by omega, HJ.out⟩
                      case measure => simp [intOf]; omega
                  · have hk30' : ¬ (k : Int) < 30 := by omega
                    obtain ⟨hfr, x4, hx4, hs4⟩ := HJ.out
                    have hBT2 := BT.out.trans hfr.1
                    have hRN := hfr.2.texts HRN.out
                    have hRV := hfr.2.texts HRV.out
                    clear BT HRN HRV HJ
                    have BT := Lib.hid hBT2
                    have HRN := Lib.hid hRN
                    have HRV := Lib.hid hRV
                    have HX := Lib.hid hx4
                    have CF := Lib.hid (show crashF x4.sure x4.T 0 0 = F by rw [hs4]; exact crash_none F _)
                    have HN := Lib.hid (Nat.zero_le x4.T.length)
                    clear hfr hx4 hs4 hBT2 hRN hRV
                    obtain ⟨n, hn⟩ : ∃ n : Nat, n = 0 := ⟨_, rfl⟩
                    have hn0 : ((0 : Nat) : Int) = (n : Int) := by rw [hn]
                    obtain ⟨wp, hwp⟩ : ∃ z, z = wy := ⟨_, rfl⟩
                    subst hwp
                    obtain ⟨x, hxx⟩ : ∃ z, z = x4 := ⟨_, rfl⟩
                    subst hxx
                    have CF2 := Lib.hid (show crashF x.sure x.T n 0 = F by rw [hn]; exact CF.out)
                    have HN2 := Lib.hid (show n ≤ x.T.length by omega)
                    clear hn CF HN
                    have HN := HN2
                    have CR := crash_fine B d x n F wp HX.out HN.out CF2.out
                    have HFL := Lib.hid hF64
                    go_upto_region 38 with (fail)
                    go_wp2_with (fail)
                    have hnz : (n : Int) = 0 := by rw [← hn0]; rfl
                    rw [hnz] at CR
                    clear hn0 hnz
                    refine Calls.mono CR ?_
                    rintro y w5 ⟨rfl, ⟨x5, rfl, hx5⟩, hF5⟩
                    have PW := pending_walk B d F F [] w5 hx5.1
                    have hBT := BT.out.trans hF5.1
                    have hRN := hF5.2.texts HRN.out
                    have hRV := hF5.2.texts HRV.out
                    have HX5 := Lib.hid hx5
                    clear CR HX BT HRN HRV hx5 hF5
                    have BT := Lib.hid hBT
                    have HRN := Lib.hid hRN
                    have HRV := Lib.hid hRV
                    clear hBT hRN hRV
                    go_wp2_with (fail)
                    refine Calls.mono PW ?_
                    rintro y w6 ⟨rfl, rfl⟩
                    clear PW
                    have NM := names_walk B d F F [] w6 HX5.out.1
                    have HBN := Lib.hid HX5.out.1.lo.2
                    go_upto_region 40 with (fail)
                    go_wp2_with (fail)
                    refine Calls.mono NM ?_
                    rintro y w7 ⟨vR, B7, rfl, hB7, hrow, _, hBl7⟩
                    obtain ⟨AR, cR, rfl⟩ := row_form hrow
                    have hBT := BT.out.trans (hBl7.mono HBN.out)
                    have hRN := row_below HRN.out hBl7
                    have hRV := row_below HRV.out hBl7
                    have hX7 := HX5.out.below hBl7
                    clear NM BT HRN HRV HX5 HBN hBl7
                    have BT := Lib.hid hBT
                    have HRN := Lib.hid hRN
                    have HRV := Lib.hid hRV
                    have HX7 := Lib.hid hX7
                    have HROW := Lib.hid hrow
                    have HBL := Lib.hid hX7.1.lo.2
                    clear hBT hRN hRV hX7 hrow
                    go_upto_region 43 with (fail)
                    go_wp2_with (fail)
                    go_loopw [20, 21, 22] (fun iv _ _ wy => ∃ q : Nat, iv = .int .i64 q ∧ q ≤ F.length ∧ Below w7.heap.size w7 wy) (fun iv _ _ _ => F.length - (intOf iv).toNat)
                    case atStart => exact ⟨0, rfl, by omega, Below.refl _ _⟩
                    case round =>
                      obtain ⟨wv, rfl⟩ : ∃ Z, Z = wr := ⟨_, rfl⟩
                      obtain ⟨q, rfl, hq, hV⟩ := hrel
                      have HV := Lib.hid hV
                      clear hV
                      have q0 : (0 : Int) ≤ q := by omega
                      by_cases hql : q < F.length
                      · have hql' : (q : Int) < (F.length : Int) := by omega
                        obtain ⟨xn, hxn, hlk⟩ := names_at hql
                        obtain ⟨gR, e, hcR, _, hgR⟩ := text_at HROW.out hql
                        subst e
                        obtain ⟨gM, e, hcM, _, hgM⟩ := text_at HRN.out hql
                        subst e
                        obtain ⟨gV, e, hcV, _, hgV⟩ := text_at HRV.out hql
                        subst e
                        have hcR' : wv.cell? ⟨gR, q, none⟩ = some (.string ⟨xn.toArray⟩) := by rw [HV.out.cell (p := ⟨gR, q, none⟩) hgR, hcR, List.getElem?_map, hxn]; rfl
                        have hcM' : wv.cell? ⟨gM, q, none⟩ = some (.string ⟨xn.toArray⟩) := by rw [HV.out.cell (p := ⟨gM, q, none⟩) hgM, hcM, List.getElem?_map, hxn]; rfl
                        have hcV' : wv.cell? ⟨gV, q, none⟩ = some (.string ⟨(valF F xn).toArray⟩) := by rw [HV.out.cell (p := ⟨gV, q, none⟩) hgV, hcV, List.getElem?_map, List.getElem?_map, hxn]; rfl
                        have zR := Nat.lt_of_lt_of_le hgR HV.out.size
                        have zM := Nat.lt_of_lt_of_le hgM HV.out.size
                        have zV := Nat.lt_of_lt_of_le hgV HV.out.size
                        have RD := read_named B d ⟨F, F, []⟩ xn wv (HX7.out.below HV.out) hlk
                        clear hcR hcM hcV hxn hlk hgR hgM hgV
                        have HCR := Lib.hid hcR'
                        have HCM := Lib.hid hcM'
                        have HCV := Lib.hid hcV'
                        go_upto_region 46 with (fail)
                        go_wp2_with (fail)
                        refine Calls.mono RD ?_
                        rintro y w8 ⟨A8, c8, rfl, hr8, hB8⟩
                        have hcv : ∀ nn : Nat, (convert 35 9 (.slice A8 (valF F xn).length c8)).run Try.prog (w8.drewN nn) = .ok (.string ⟨(valF F xn).toArray⟩) (w8.drewN nn) := fun nn => RdY.conv (RdY.kept hr8 (KeptY.below (below_drewN (Below.refl _ _) nn)))
                        have hcR2 := bel_cell hB8 HCR.out
                        have hcM2 := bel_cell hB8 HCM.out
                        have hcV2 := bel_cell hB8 HCV.out
                        have zR2 := Nat.lt_of_lt_of_le zR hB8.size
                        have zM2 := Nat.lt_of_lt_of_le zM hB8.size
                        have zV2 := Nat.lt_of_lt_of_le zV hB8.size
                        have HV8 := Lib.hid (below_trans HV.out hB8)
                        try dsimp only at hcv
                        clear RD hr8 hB8 HCR HCM HCV hcR' hcM' hcV' zR zM zV HV
                        generalize valF F xn = bs at *
                        go_upto_region 47 with (fail)
                        go_quiet (fail)
                        have HV9 := Lib.hid (below_drewN HV8.out nq)
                        clear HV8 hcR2 hcM2 hcV2 zR2 zM2 zV2 hcv
                        go_wp2_with (fail)
                        go_roundw
                        case rel => exact ⟨q + 1, by go_num, by omega, HV9.out⟩
                        case measure => simp [intOf]; omega
                      · have hql' : ¬ (q : Int) < (F.length : Int) := by omega
                        have SW := sure_walk wv
                        have hBT := HB1.out.trans (BT.out.trans (HV.out.mono HBL.out))
                        have HBT := Lib.hid hBT
                        have HBV := Lib.hid (Nat.le_trans HBL.out HV.out.size)
                        clear hBT
                        go_wp2_with (fail)
                        refine Calls.mono SW ?_
                        rintro y w9 ⟨rfl, hB9⟩
                        have HF := Lib.hid (show Below B w w9 from HBT.out.trans (hB9.mono HBV.out))
                        clear SW hB9
                        go_wp2_with (fail)
                        go_ret
                        exact ⟨rfl, by rw [hB]; exact HF.out⟩
                · have hkl' : ¬ (k : Int) < (L2.length : Int) := by omega
                  obtain ⟨hfr, x4, hx4, hs4⟩ := HJ.out
                  have hBT2 := BT.out.trans hfr.1
                  have hRN := hfr.2.texts HRN.out
                  have hRV := hfr.2.texts HRV.out
                  clear BT HRN HRV HJ
                  have BT := Lib.hid hBT2
                  have HRN := Lib.hid hRN
                  have HRV := Lib.hid hRV
                  have HX := Lib.hid hx4
                  have CF := Lib.hid (show crashF x4.sure x4.T 0 0 = F by rw [hs4]; exact crash_none F _)
                  have HN := Lib.hid (Nat.zero_le x4.T.length)
                  clear hfr hx4 hs4 hBT2 hRN hRV
                  obtain ⟨n, hn⟩ : ∃ n : Nat, n = 0 := ⟨_, rfl⟩
                  have hn0 : ((0 : Nat) : Int) = (n : Int) := by rw [hn]
                  obtain ⟨wp, hwp⟩ : ∃ z, z = wy := ⟨_, rfl⟩
                  subst hwp
                  obtain ⟨x, hxx⟩ : ∃ z, z = x4 := ⟨_, rfl⟩
                  subst hxx
                  have CF2 := Lib.hid (show crashF x.sure x.T n 0 = F by rw [hn]; exact CF.out)
                  have HN2 := Lib.hid (show n ≤ x.T.length by omega)
                  clear hn CF HN
                  have HN := HN2
                  have CR := crash_fine B d x n F wp HX.out HN.out CF2.out
                  have HFL := Lib.hid hF64
                  go_upto_region 38 with (fail)
                  go_wp2_with (fail)
                  have hnz : (n : Int) = 0 := by rw [← hn0]; rfl
                  rw [hnz] at CR
                  clear hn0 hnz
                  refine Calls.mono CR ?_
                  rintro y w5 ⟨rfl, ⟨x5, rfl, hx5⟩, hF5⟩
                  have PW := pending_walk B d F F [] w5 hx5.1
                  have hBT := BT.out.trans hF5.1
                  have hRN := hF5.2.texts HRN.out
                  have hRV := hF5.2.texts HRV.out
                  have HX5 := Lib.hid hx5
                  clear CR HX BT HRN HRV hx5 hF5
                  have BT := Lib.hid hBT
                  have HRN := Lib.hid hRN
                  have HRV := Lib.hid hRV
                  clear hBT hRN hRV
                  go_wp2_with (fail)
                  refine Calls.mono PW ?_
                  rintro y w6 ⟨rfl, rfl⟩
                  clear PW
                  have NM := names_walk B d F F [] w6 HX5.out.1
                  have HBN := Lib.hid HX5.out.1.lo.2
                  go_upto_region 40 with (fail)
                  go_wp2_with (fail)
                  refine Calls.mono NM ?_
                  rintro y w7 ⟨vR, B7, rfl, hB7, hrow, _, hBl7⟩
                  obtain ⟨AR, cR, rfl⟩ := row_form hrow
                  have hBT := BT.out.trans (hBl7.mono HBN.out)
                  have hRN := row_below HRN.out hBl7
                  have hRV := row_below HRV.out hBl7
                  have hX7 := HX5.out.below hBl7
                  clear NM BT HRN HRV HX5 HBN hBl7
                  have BT := Lib.hid hBT
                  have HRN := Lib.hid hRN
                  have HRV := Lib.hid hRV
                  have HX7 := Lib.hid hX7
                  have HROW := Lib.hid hrow
                  have HBL := Lib.hid hX7.1.lo.2
                  clear hBT hRN hRV hX7 hrow
                  go_upto_region 43 with (fail)
                  go_wp2_with (fail)
                  go_loopw [20, 21, 22] (fun iv _ _ wy => ∃ q : Nat, iv = .int .i64 q ∧ q ≤ F.length ∧ Below w7.heap.size w7 wy) (fun iv _ _ _ => F.length - (intOf iv).toNat)
                  case atStart => exact ⟨0, rfl, by omega, Below.refl _ _⟩
                  case round =>
                    obtain ⟨wv, rfl⟩ : ∃ Z, Z = wr := ⟨_, rfl⟩
                    obtain ⟨q, rfl, hq, hV⟩ := hrel
                    have HV := Lib.hid hV
                    clear hV
                    have q0 : (0 : Int) ≤ q := by omega
                    by_cases hql : q < F.length
                    · have hql' : (q : Int) < (F.length : Int) := by omega
                      obtain ⟨xn, hxn, hlk⟩ := names_at hql
                      obtain ⟨gR, e, hcR, _, hgR⟩ := text_at HROW.out hql
                      subst e
                      obtain ⟨gM, e, hcM, _, hgM⟩ := text_at HRN.out hql
                      subst e
                      obtain ⟨gV, e, hcV, _, hgV⟩ := text_at HRV.out hql
                      subst e
                      have hcR' : wv.cell? ⟨gR, q, none⟩ = some (.string ⟨xn.toArray⟩) := by rw [HV.out.cell (p := ⟨gR, q, none⟩) hgR, hcR, List.getElem?_map, hxn]; rfl
                      have hcM' : wv.cell? ⟨gM, q, none⟩ = some (.string ⟨xn.toArray⟩) := by rw [HV.out.cell (p := ⟨gM, q, none⟩) hgM, hcM, List.getElem?_map, hxn]; rfl
                      have hcV' : wv.cell? ⟨gV, q, none⟩ = some (.string ⟨(valF F xn).toArray⟩) := by rw [HV.out.cell (p := ⟨gV, q, none⟩) hgV, hcV, List.getElem?_map, List.getElem?_map, hxn]; rfl
                      have zR := Nat.lt_of_lt_of_le hgR HV.out.size
                      have zM := Nat.lt_of_lt_of_le hgM HV.out.size
                      have zV := Nat.lt_of_lt_of_le hgV HV.out.size
                      have RD := read_named B d ⟨F, F, []⟩ xn wv (HX7.out.below HV.out) hlk
                      clear hcR hcM hcV hxn hlk hgR hgM hgV
                      have HCR := Lib.hid hcR'
                      have HCM := Lib.hid hcM'
                      have HCV := Lib.hid hcV'
                      go_upto_region 46 with (fail)
                      go_wp2_with (fail)
                      refine Calls.mono RD ?_
                      rintro y w8 ⟨A8, c8, rfl, hr8, hB8⟩
                      have hcv : ∀ nn : Nat, (convert 35 9 (.slice A8 (valF F xn).length c8)).run Try.prog (w8.drewN nn) = .ok (.string ⟨(valF F xn).toArray⟩) (w8.drewN nn) := fun nn => RdY.conv (RdY.kept hr8 (KeptY.below (below_drewN (Below.refl _ _) nn)))
                      have hcR2 := bel_cell hB8 HCR.out
                      have hcM2 := bel_cell hB8 HCM.out
                      have hcV2 := bel_cell hB8 HCV.out
                      have zR2 := Nat.lt_of_lt_of_le zR hB8.size
                      have zM2 := Nat.lt_of_lt_of_le zM hB8.size
                      have zV2 := Nat.lt_of_lt_of_le zV hB8.size
                      have HV8 := Lib.hid (below_trans HV.out hB8)
                      try dsimp only at hcv
                      clear RD hr8 hB8 HCR HCM HCV hcR' hcM' hcV' zR zM zV HV
                      generalize valF F xn = bs at *
                      go_upto_region 47 with (fail)
                      go_quiet (fail)
                      have HV9 := Lib.hid (below_drewN HV8.out nq)
                      clear HV8 hcR2 hcM2 hcV2 zR2 zM2 zV2 hcv
                      go_wp2_with (fail)
                      go_roundw
                      case rel => exact ⟨q + 1, by go_num, by omega, HV9.out⟩
                      case measure => simp [intOf]; omega
                    · have hql' : ¬ (q : Int) < (F.length : Int) := by omega
                      have SW := sure_walk wv
                      have hBT := HB1.out.trans (BT.out.trans (HV.out.mono HBL.out))
                      have HBT := Lib.hid hBT
                      have HBV := Lib.hid (Nat.le_trans HBL.out HV.out.size)
                      clear hBT
                      go_wp2_with (fail)
                      refine Calls.mono SW ?_
                      rintro y w9 ⟨rfl, hB9⟩
                      have HF := Lib.hid (show Below B w w9 from HBT.out.trans (hB9.mono HBV.out))
                      clear SW hB9
                      go_wp2_with (fail)
                      go_ret
                      exact ⟨rfl, by rw [hB]; exact HF.out⟩
    · skip
      obtain ⟨hI1, x, hx⟩ := HI.out
      have hBT := hI1
      cases all with
      | true =>
        obtain ⟨wn, hwn⟩ : ∃ wn, wn = wl := ⟨_, rfl⟩
        subst hwn
        have HX := Lib.hid hx
        have BT := Lib.hid hBT
        clear hI1 hx hBT HI
        have NM := names_walk B d x.now x.sure x.T wn HX.out.1
        have HBN := Lib.hid HX.out.1.lo.2
        go_upto_region 21 with (fail)
        go_wp2_with (fail)
        refine Calls.mono NM ?_
        rintro y w3 ⟨vN, B0, rfl, hB0, hrow, _, hB3⟩
        have HX3 := Lib.hid (HX.out.below hB3)
        have BT3 := Lib.hid (BT.out.trans (hB3.mono HBN.out))
        obtain ⟨AN, cN, rfl⟩ := row_form hrow
        have HROW := Lib.hid hrow
        clear NM hrow hB3 HX BT HBN
        have hF64 := HX3.out.1.an.2
        have hRS := RowsAt.start w3 x.now
        have HRS := Lib.hid hRS
        clear hRS
        go_upto_region 22 with (fail)
        go_wp2_with (fail)
        go_loopw [10, 11, 13, 14, 15] (fun r1 r2 iv _ _ wz => ∃ k : Nat, iv = .int .i64 k ∧ k ≤ x.now.length ∧ RowsAt w3 x.now r1 r2 k wz) (fun _ _ iv _ _ _ => x.now.length - (intOf iv).toNat)
        case atStart => exact ⟨0, rfl, Nat.zero_le _, HRS.out⟩
        case round =>
          obtain ⟨wz, rfl⟩ : ∃ Z, Z = wr := ⟨_, rfl⟩
          obtain ⟨k, rfl, hk, hR⟩ := hrel
          have HR := Lib.hid hR
          clear hR HRS
          have k0 : (0 : Int) ≤ k := by omega
          by_cases hkF : k < x.now.length
          · have hkF' : (k : Int) < (x.now.length : Int) := by omega
            obtain ⟨xn, hxn, hlk⟩ := names_at hkF
            obtain ⟨gN, e, hcN, _, hgN0⟩ := text_at HROW.out hkF
            have hgN := Nat.lt_of_lt_of_le hgN0 HR.out.b.size
            have hcN := (HR.out.b.cell (p := ⟨gN, k, none⟩) hgN0).trans hcN
            subst e
            have hcN' : wz.cell? ⟨gN, k, none⟩ = some (.string ⟨xn.toArray⟩) := by rw [hcN, List.getElem?_map, hxn]; rfl
            clear hcN
            have RD := read_named B d x xn wz (HX3.out.below HR.out.b) hlk
            have HXN := Lib.hid hxn
            clear hxn hlk
            go_upto_region 25 with (fail)
            go_wp2_with (fail)
            refine Calls.mono RD ?_
            rintro y w4 ⟨A4, c4, rfl, hr4, hB4⟩
            have hR4 : RowsAt w3 x.now u10 u11 k w4 := ⟨row_below HR.out.n hB4, row_below HR.out.v hB4, HR.out.ne, HR.out.b.trans (hB4.mono HR.out.b.size)⟩
            have HR4 := Lib.hid hR4
            have hcN4 := bel_cell hB4 hcN'
            have HC4 := Lib.hid hcN4
            have HRY := Lib.hid hr4
            have hgN4 : gN < w4.heap.size := Nat.lt_of_lt_of_le hgN hB4.size
            have S0 := Lib.hid (show w4.cell? ⟨gN, k, none⟩ = some (.string ⟨xn.toArray⟩) ∧ RdY w4 (.slice A4 (valF x.now xn).length c4) (valF x.now xn) ∧ gN < w4.heap.size from ⟨hcN4, hr4, hgN4⟩)
            have HGN := Lib.hid (show gN < w3.heap.size from hgN0)
            clear RD hr4 hB4 hcN4 hcN' HR hgN hgN0
            go_upto_region 28 with (fail)
            generalize hbs : valF x.now xn = bs at *
            have HBS := Lib.hid hbs
            clear hbs
            have hRG : RG w3.heap.size w3 gN k ⟨xn.toArray⟩ (.slice A4 bs.length c4) bs u10 k (((namesF x.now).take k).map Proofs.encStr) u11 k ((((namesF x.now).map (valF x.now)).take k).map Proofs.encStr) w4.drew := RG.drew ⟨HR4.out.n, HR4.out.v, HR4.out.ne, HR4.out.b, HR4.out.b.size, HC4.out, HGN.out, HRY.out⟩
            have HRG := Lib.hid hRG
            have S1 := Lib.hid hRG.held
            have hk20 : k + 1 ≤ 1048576 := by omega
            clear hRG S0 HR4 HRY HC4 hgN4
            refine wp_region_noPanic ?_
            refine wp_region_held_drew (S := (fun w' => S28 gN k ⟨xn.toArray⟩ (.slice A4 bs.length c4) bs w')) (by kernel_rfl) ?_ (fun hHeld => ?_)
            · exact S1.out
            generalize w4.drew = wd at *
            refine reg_take (i := 0) (oi := _) (v := ?_) rfl (by kernel_rfl) (by kernel_rfl) (by kernel_rfl) (fun _ _ _ h => h) (by rfl) ?_ (by assumption) ?_
            rotate_left
            · intro w hSw; (try dsimp only at hSw); have y0 := hSw.1; have y1 := hSw.2.1.conv; have y2 := hSw.2.2; go_simp; try with_reducible rfl
            (try simp only [Act.put, List.setIfInBounds_toArray, List.set_cons_zero, List.set_cons_succ])
            refine reg_take (i := 1) (oi := _) (v := ?_) rfl (by kernel_rfl) (by kernel_rfl) (by kernel_rfl) (fun _ _ _ h => h) (by rfl) ?_ (by assumption) ?_
            rotate_left
            · intro w hSw; (try dsimp only at hSw); have y0 := hSw.1; have y1 := hSw.2.1.conv; have y2 := hSw.2.2; go_simp; try with_reducible rfl
            (try simp only [Act.put, List.setIfInBounds_toArray, List.set_cons_zero, List.set_cons_succ])
            refine reg_take (i := 2) (oi := _) (v := ?_) rfl (by kernel_rfl) (by kernel_rfl) (by kernel_rfl) (fun _ _ _ h => h) (by rfl) ?_ (by assumption) ?_
            rotate_left
            · intro w hSw; (try dsimp only at hSw); have y0 := hSw.1; have y1 := hSw.2.1.conv; have y2 := hSw.2.2; go_simp; try with_reducible rfl
            (try simp only [Act.put, List.setIfInBounds_toArray, List.set_cons_zero, List.set_cons_succ])
            refine reg_take (i := 3) (oi := _) (v := ?_) rfl (by kernel_rfl) (by kernel_rfl) (by kernel_rfl) (fun _ _ _ h => h) (by rfl) ?_ (by assumption) ?_
            rotate_left
            · intro w hSw; (try dsimp only at hSw); have y0 := hSw.1; have y1 := hSw.2.1.conv; have y2 := hSw.2.2; go_simp; try with_reducible rfl
            (try simp only [Act.put, List.setIfInBounds_toArray, List.set_cons_zero, List.set_cons_succ])
            refine reg_take (i := 4) (oi := _) (v := ?_) rfl (by kernel_rfl) (by kernel_rfl) (by kernel_rfl) (fun _ _ _ h => h) (by rfl) ?_ (by assumption) ?_
            rotate_left
            · intro w hSw; (try dsimp only at hSw); have y0 := hSw.1; have y1 := hSw.2.1.conv; have y2 := hSw.2.2; go_simp; try with_reducible rfl
            (try simp only [Act.put, List.setIfInBounds_toArray, List.set_cons_zero, List.set_cons_succ])
            refine reg_take (i := 7) (oi := _) (v := ?_) rfl (by kernel_rfl) (by kernel_rfl) (by kernel_rfl) (fun _ _ _ h => h) (by rfl) ?_ (by assumption) ?_
            rotate_left
            · intro w hSw; (try dsimp only at hSw); have y0 := hSw.1; have y1 := hSw.2.1.conv; have y2 := hSw.2.2; go_simp; try with_reducible rfl
            (try simp only [Act.put, List.setIfInBounds_toArray, List.set_cons_zero, List.set_cons_succ])
            refine reg_take (i := 8) (oi := _) (v := ?_) rfl (by kernel_rfl) (by kernel_rfl) (by kernel_rfl) (fun _ _ _ h => h) (by rfl) ?_ (by assumption) ?_
            rotate_left
            · intro w hSw; (try dsimp only at hSw); have y0 := hSw.1; have y1 := hSw.2.1.conv; have y2 := hSw.2.2; go_simp; try with_reducible rfl
            (try simp only [Act.put, List.setIfInBounds_toArray, List.set_cons_zero, List.set_cons_succ])
            refine reg_take (i := 9) (oi := _) (v := ?_) rfl (by kernel_rfl) (by kernel_rfl) (by kernel_rfl) (fun _ _ _ h => h) (by rfl) ?_ (by assumption) ?_
            rotate_left
            · intro w hSw; (try dsimp only at hSw); have y0 := hSw.1; have y1 := hSw.2.1.conv; have y2 := hSw.2.2; go_simp; try with_reducible rfl
            (try simp only [Act.put, List.setIfInBounds_toArray, List.set_cons_zero, List.set_cons_succ])
            refine wpAnyH_ready (rs := [5, 10]) (by kernel_rfl) (by simp) ?_
            refine reg_each (o := _) rfl (fun K hK => ?_) ?_
            · skip
              go_simp
              refine hK.out _ _ ?_ (fun hHeld2 => ?_)
              · exact (HRG.out.alloc _).held
              clear hK K hHeld
              have hHeld := hHeld2
              clear hHeld2
              (try simp only [Act.put, List.setIfInBounds_toArray, List.set_cons_zero, List.set_cons_succ])
              have RG0 := Lib.hid (HRG.out.alloc (.cells #[.string ⟨xn.toArray⟩] 9))
              have P5 := Lib.hid (new_cell wd ⟨xn.toArray⟩)
              have N5 := Lib.hid HRG.out.no1
              generalize wd.alloc (Obj.cells #[.string ⟨xn.toArray⟩] 9) = wx0 at *
              generalize wd.heap.size = p5 at *
              clear HRG
              refine wpAnyH_ready (rs := [6, 10]) (by kernel_rfl) (by simp) ?_
              refine reg_each (o := _) rfl (fun K hK => ?_) ?_
              · skip
                refine step_append_t rfl (.tmp 104) (.tmp 109) rfl w3.heap.size u10 k _ ⟨xn.toArray⟩ ⟨p5, 0, none⟩ 1 rfl rfl RG0.out.n P5.out hk20 RG0.out.l ?_
                intro r6 wq own6 gr6 at6
                refine hK.out _ _ ?_ (fun hHeld2 => ?_)
                · exact (RG0.out.app1 own6 gr6 at6).held
                clear hK K hHeld
                have hHeld := hHeld2
                clear hHeld2
                (try simp only [Act.put, List.setIfInBounds_toArray, List.set_cons_zero, List.set_cons_succ])
                have RG1 := Lib.hid (RG0.out.app1 own6 gr6 at6)
                clear own6 gr6 at6 RG0
                obtain ⟨wx1, hwq⟩ : ∃ z, z = wq := ⟨_, rfl⟩
                subst hwq
                refine wpAnyH_ready (rs := [10]) (by kernel_rfl) (by simp) ?_
                refine reg_each (o := _) rfl (fun K hK => ?_) ?_
                · skip
                  go_simp
                  refine hK.out _ _ ?_ (fun hHeld2 => ?_)
                  · exact (RG1.out.alloc _).held
                  clear hK K hHeld
                  have hHeld := hHeld2
                  clear hHeld2
                  (try simp only [Act.put, List.setIfInBounds_toArray, List.set_cons_zero, List.set_cons_succ])
                  have RG2 := Lib.hid (RG1.out.alloc (.cells #[.string ⟨bs.toArray⟩] 9))
                  have P10 := Lib.hid (new_cell wx1 ⟨bs.toArray⟩)
                  have N10 := Lib.hid RG1.out.no2
                  generalize wx1.alloc (Obj.cells #[.string ⟨bs.toArray⟩] 9) = wx2 at *
                  generalize wx1.heap.size = p10 at *
                  clear RG1
                  refine wpAnyH_ready (rs := [11]) (by kernel_rfl) (by simp) ?_
                  refine reg_each (o := _) rfl (fun K hK => ?_) ?_
                  · skip
                    refine step_append_t rfl (.tmp 111) (.tmp 114) rfl w3.heap.size u11 k _ ⟨bs.toArray⟩ ⟨p10, 0, none⟩ 1 rfl rfl RG2.out.v P10.out hk20 RG2.out.l ?_
                    intro r11 wq own11 gr11 at11
                    refine hK.out _ _ ?_ (fun hHeld2 => ?_)
                    · exact (RG2.out.app2 own11 gr11 at11).held
                    clear hK K hHeld
                    have hHeld := hHeld2
                    clear hHeld2
                    (try simp only [Act.put, List.setIfInBounds_toArray, List.set_cons_zero, List.set_cons_succ])
                    have RG3 := Lib.hid (RG2.out.app2 own11 gr11 at11)
                    clear own11 gr11 at11 RG2
                    obtain ⟨wx3, hwq⟩ : ∃ z, z = wq := ⟨_, rfl⟩
                    subst hwq
                    refine reg_take (i := 12) (oi := _) (v := ?_) rfl (by kernel_rfl) (by kernel_rfl) (by kernel_rfl) (fun _ _ _ h => h) (by rfl) ?_ (by assumption) ?_
                    rotate_left
                    · intro w hSw; (try dsimp only at hSw); have y0 := hSw.1; have y1 := hSw.2.1.conv; have y2 := hSw.2.2; go_simp; try with_reducible rfl
                    (try simp only [Act.put, List.setIfInBounds_toArray, List.set_cons_zero, List.set_cons_succ])
                    refine reg_take (i := 13) (oi := _) (v := ?_) rfl (by kernel_rfl) (by kernel_rfl) (by kernel_rfl) (fun _ _ _ h => h) (by rfl) ?_ (by assumption) ?_
                    rotate_left
                    · intro w hSw; (try dsimp only at hSw); have y0 := hSw.1; have y1 := hSw.2.1.conv; have y2 := hSw.2.2; go_simp; try with_reducible rfl
                    (try simp only [Act.put, List.setIfInBounds_toArray, List.set_cons_zero, List.set_cons_succ])
                    refine wpAnyH_done (by kernel_rfl) ?_ _
                    refine NoPanic.normal ?_
                    have HNR := Lib.hid (show RowsAt w3 x.now r6 r11 (k + 1) wx3 from ⟨by rw [rows_next HXN.out]; exact RG3.out.n, by rw [rows_next (by rw [List.getElem?_map, HXN.out]; rfl : ((namesF x.now).map (valF x.now))[k]? = some (valF x.now xn)), HBS.out]; exact RG3.out.v, RG3.out.ne, RG3.out.b⟩)
                    clear hHeld RG3
                    go_wp2_with (fail)
                    go_roundw
                    case rel => exact ⟨k + 1, by go_num, by omega, HNR.out⟩
                    case measure => simp [intOf]; omega
                  exact AllReadyH.nil
                exact AllReadyH.nil
              refine reg_each (o := _) rfl (fun K hK => ?_) ?_
              · skip
                go_simp
                refine hK.out _ _ ?_ (fun hHeld2 => ?_)
                · exact (RG0.out.alloc _).held
                clear hK K hHeld
                have hHeld := hHeld2
                clear hHeld2
                (try simp only [Act.put, List.setIfInBounds_toArray, List.set_cons_zero, List.set_cons_succ])
                have RG1 := Lib.hid (RG0.out.alloc (.cells #[.string ⟨bs.toArray⟩] 9))
                have P10 := Lib.hid (new_cell wx0 ⟨bs.toArray⟩)
                have N10 := Lib.hid RG0.out.no2
                have M10 := Lib.hid RG0.out.no1
                have P5 := Lib.hid (bel_cell ((Below.refl wx0.heap.size wx0).alloc (Nat.le_refl _) (.cells #[.string ⟨bs.toArray⟩] 9)) P5.out)
                generalize wx0.alloc (Obj.cells #[.string ⟨bs.toArray⟩] 9) = wx1 at *
                generalize wx0.heap.size = p10 at *
                clear RG0
                refine wpAnyH_ready (rs := [6]) (by kernel_rfl) (by simp) ?_
                refine reg_each (o := _) rfl (fun K hK => ?_) ?_
                · skip
                  refine step_append_t rfl (.tmp 104) (.tmp 109) rfl w3.heap.size u10 k _ ⟨xn.toArray⟩ ⟨p5, 0, none⟩ 1 rfl rfl RG1.out.n P5.out hk20 RG1.out.l ?_
                  intro r6 wq own6 gr6 at6
                  refine hK.out _ _ ?_ (fun hHeld2 => ?_)
                  · exact (RG1.out.app1 own6 gr6 at6).held
                  clear hK K hHeld
                  have hHeld := hHeld2
                  clear hHeld2
                  (try simp only [Act.put, List.setIfInBounds_toArray, List.set_cons_zero, List.set_cons_succ])
                  have RG2 := Lib.hid (RG1.out.app1 own6 gr6 at6)
                  have P10 := Lib.hid (grown_cell gr6 P10.out M10.out)
                  clear own6 gr6 at6 RG1
                  obtain ⟨wx2, hwq⟩ : ∃ z, z = wq := ⟨_, rfl⟩
                  subst hwq
                  refine wpAnyH_ready (rs := [11]) (by kernel_rfl) (by simp) ?_
                  refine reg_each (o := _) rfl (fun K hK => ?_) ?_
                  · skip
                    refine step_append_t rfl (.tmp 111) (.tmp 114) rfl w3.heap.size u11 k _ ⟨bs.toArray⟩ ⟨p10, 0, none⟩ 1 rfl rfl RG2.out.v P10.out hk20 RG2.out.l ?_
                    intro r11 wq own11 gr11 at11
                    refine hK.out _ _ ?_ (fun hHeld2 => ?_)
                    · exact (RG2.out.app2 own11 gr11 at11).held
                    clear hK K hHeld
                    have hHeld := hHeld2
                    clear hHeld2
                    (try simp only [Act.put, List.setIfInBounds_toArray, List.set_cons_zero, List.set_cons_succ])
                    have RG3 := Lib.hid (RG2.out.app2 own11 gr11 at11)
                    clear own11 gr11 at11 RG2
                    obtain ⟨wx3, hwq⟩ : ∃ z, z = wq := ⟨_, rfl⟩
                    subst hwq
                    refine reg_take (i := 12) (oi := _) (v := ?_) rfl (by kernel_rfl) (by kernel_rfl) (by kernel_rfl) (fun _ _ _ h => h) (by rfl) ?_ (by assumption) ?_
                    rotate_left
                    · intro w hSw; (try dsimp only at hSw); have y0 := hSw.1; have y1 := hSw.2.1.conv; have y2 := hSw.2.2; go_simp; try with_reducible rfl
                    (try simp only [Act.put, List.setIfInBounds_toArray, List.set_cons_zero, List.set_cons_succ])
                    refine reg_take (i := 13) (oi := _) (v := ?_) rfl (by kernel_rfl) (by kernel_rfl) (by kernel_rfl) (fun _ _ _ h => h) (by rfl) ?_ (by assumption) ?_
                    rotate_left
                    · intro w hSw; (try dsimp only at hSw); have y0 := hSw.1; have y1 := hSw.2.1.conv; have y2 := hSw.2.2; go_simp; try with_reducible rfl
                    (try simp only [Act.put, List.setIfInBounds_toArray, List.set_cons_zero, List.set_cons_succ])
                    refine wpAnyH_done (by kernel_rfl) ?_ _
                    refine NoPanic.normal ?_
                    have HNR := Lib.hid (show RowsAt w3 x.now r6 r11 (k + 1) wx3 from ⟨by rw [rows_next HXN.out]; exact RG3.out.n, by rw [rows_next (by rw [List.getElem?_map, HXN.out]; rfl : ((namesF x.now).map (valF x.now))[k]? = some (valF x.now xn)), HBS.out]; exact RG3.out.v, RG3.out.ne, RG3.out.b⟩)
                    clear hHeld RG3
                    go_wp2_with (fail)
                    go_roundw
                    case rel => exact ⟨k + 1, by go_num, by omega, HNR.out⟩
                    case measure => simp [intOf]; omega
                  exact AllReadyH.nil
                exact AllReadyH.nil
              exact AllReadyH.nil
            refine reg_each (o := _) rfl (fun K hK => ?_) ?_
            · skip
              go_simp
              refine hK.out _ _ ?_ (fun hHeld2 => ?_)
              · exact (HRG.out.alloc _).held
              clear hK K hHeld
              have hHeld := hHeld2
              clear hHeld2
              (try simp only [Act.put, List.setIfInBounds_toArray, List.set_cons_zero, List.set_cons_succ])
              have RG0 := Lib.hid (HRG.out.alloc (.cells #[.string ⟨bs.toArray⟩] 9))
              have P10 := Lib.hid (new_cell wd ⟨bs.toArray⟩)
              have N10 := Lib.hid HRG.out.no2
              have M10 := Lib.hid HRG.out.no1
              generalize wd.alloc (Obj.cells #[.string ⟨bs.toArray⟩] 9) = wx0 at *
              generalize wd.heap.size = p10 at *
              clear HRG
              refine wpAnyH_ready (rs := [5]) (by kernel_rfl) (by simp) ?_
              refine reg_each (o := _) rfl (fun K hK => ?_) ?_
              · skip
                go_simp
                refine hK.out _ _ ?_ (fun hHeld2 => ?_)
                · exact (RG0.out.alloc _).held
                clear hK K hHeld
                have hHeld := hHeld2
                clear hHeld2
                (try simp only [Act.put, List.setIfInBounds_toArray, List.set_cons_zero, List.set_cons_succ])
                have RG1 := Lib.hid (RG0.out.alloc (.cells #[.string ⟨xn.toArray⟩] 9))
                have P5 := Lib.hid (new_cell wx0 ⟨xn.toArray⟩)
                have N5 := Lib.hid RG0.out.no1
                have P10 := Lib.hid (bel_cell ((Below.refl wx0.heap.size wx0).alloc (Nat.le_refl _) (.cells #[.string ⟨xn.toArray⟩] 9)) P10.out)
                generalize wx0.alloc (Obj.cells #[.string ⟨xn.toArray⟩] 9) = wx1 at *
                generalize wx0.heap.size = p5 at *
                clear RG0
                refine wpAnyH_ready (rs := [6]) (by kernel_rfl) (by simp) ?_
                refine reg_each (o := _) rfl (fun K hK => ?_) ?_
                · skip
                  refine step_append_t rfl (.tmp 104) (.tmp 109) rfl w3.heap.size u10 k _ ⟨xn.toArray⟩ ⟨p5, 0, none⟩ 1 rfl rfl RG1.out.n P5.out hk20 RG1.out.l ?_
                  intro r6 wq own6 gr6 at6
                  refine hK.out _ _ ?_ (fun hHeld2 => ?_)
                  · exact (RG1.out.app1 own6 gr6 at6).held
                  clear hK K hHeld
                  have hHeld := hHeld2
                  clear hHeld2
                  (try simp only [Act.put, List.setIfInBounds_toArray, List.set_cons_zero, List.set_cons_succ])
                  have RG2 := Lib.hid (RG1.out.app1 own6 gr6 at6)
                  have P10 := Lib.hid (grown_cell gr6 P10.out M10.out)
                  clear own6 gr6 at6 RG1
                  obtain ⟨wx2, hwq⟩ : ∃ z, z = wq := ⟨_, rfl⟩
                  subst hwq
                  refine wpAnyH_ready (rs := [11]) (by kernel_rfl) (by simp) ?_
                  refine reg_each (o := _) rfl (fun K hK => ?_) ?_
                  · skip
                    refine step_append_t rfl (.tmp 111) (.tmp 114) rfl w3.heap.size u11 k _ ⟨bs.toArray⟩ ⟨p10, 0, none⟩ 1 rfl rfl RG2.out.v P10.out hk20 RG2.out.l ?_
                    intro r11 wq own11 gr11 at11
                    refine hK.out _ _ ?_ (fun hHeld2 => ?_)
                    · exact (RG2.out.app2 own11 gr11 at11).held
                    clear hK K hHeld
                    have hHeld := hHeld2
                    clear hHeld2
                    (try simp only [Act.put, List.setIfInBounds_toArray, List.set_cons_zero, List.set_cons_succ])
                    have RG3 := Lib.hid (RG2.out.app2 own11 gr11 at11)
                    clear own11 gr11 at11 RG2
                    obtain ⟨wx3, hwq⟩ : ∃ z, z = wq := ⟨_, rfl⟩
                    subst hwq
                    refine reg_take (i := 12) (oi := _) (v := ?_) rfl (by kernel_rfl) (by kernel_rfl) (by kernel_rfl) (fun _ _ _ h => h) (by rfl) ?_ (by assumption) ?_
                    rotate_left
                    · intro w hSw; (try dsimp only at hSw); have y0 := hSw.1; have y1 := hSw.2.1.conv; have y2 := hSw.2.2; go_simp; try with_reducible rfl
                    (try simp only [Act.put, List.setIfInBounds_toArray, List.set_cons_zero, List.set_cons_succ])
                    refine reg_take (i := 13) (oi := _) (v := ?_) rfl (by kernel_rfl) (by kernel_rfl) (by kernel_rfl) (fun _ _ _ h => h) (by rfl) ?_ (by assumption) ?_
                    rotate_left
                    · intro w hSw; (try dsimp only at hSw); have y0 := hSw.1; have y1 := hSw.2.1.conv; have y2 := hSw.2.2; go_simp; try with_reducible rfl
                    (try simp only [Act.put, List.setIfInBounds_toArray, List.set_cons_zero, List.set_cons_succ])
                    refine wpAnyH_done (by kernel_rfl) ?_ _
                    refine NoPanic.normal ?_
                    have HNR := Lib.hid (show RowsAt w3 x.now r6 r11 (k + 1) wx3 from ⟨by rw [rows_next HXN.out]; exact RG3.out.n, by rw [rows_next (by rw [List.getElem?_map, HXN.out]; rfl : ((namesF x.now).map (valF x.now))[k]? = some (valF x.now xn)), HBS.out]; exact RG3.out.v, RG3.out.ne, RG3.out.b⟩)
                    clear hHeld RG3
                    go_wp2_with (fail)
                    go_roundw
                    case rel => exact ⟨k + 1, by go_num, by omega, HNR.out⟩
                    case measure => simp [intOf]; omega
                  exact AllReadyH.nil
                exact AllReadyH.nil
              exact AllReadyH.nil
            exact AllReadyH.nil
          · have hkF' : ¬ (k : Int) < (x.now.length : Int) := by omega
            obtain rfl : k = x.now.length := by omega
            have hRN := HR.out.n
            have hRV := HR.out.v
            rw [List.take_of_length_le (by unfold namesF; simp)] at hRN hRV
            have hHX := HX3.out.below HR.out.b
            have hBT := BT3.out.trans (HR.out.b.mono HX3.out.1.lo.2)
            obtain ⟨AM, cM, rfl⟩ := row_form hRN
            obtain ⟨AV, cV, rfl⟩ := row_form hRV
            have HRN := Lib.hid hRN
            have HRV := Lib.hid hRV
            have HX := Lib.hid hHX
            have BT := Lib.hid hBT
            clear hRN hRV hHX hBT HR HX3 BT3 HROW k0 hk hkF hkF'
            generalize w3.heap.size = b3 at *
            have PW := pending_walk B d x.now x.sure x.T wz HX.out.1
            go_upto_region 29 with (fail)
            go_wp2_with (fail)
            refine Calls.mono PW ?_
            rintro y wp ⟨rfl, rfl⟩
            clear PW
            have CF := Lib.hid (crash_all HX.out.2)
            generalize hF : x.now = F at *
            clear hF
            obtain ⟨n, hn⟩ : ∃ n, n = x.T.length := ⟨_, rfl⟩
            have HN := Lib.hid (show n ≤ x.T.length by omega)
            have CF2 := Lib.hid (show crashF x.sure x.T n 0 = F by rw [hn]; exact CF.out)
            rw [← hn]
            clear hn CF
            have CR := crash_fine B d x n F wp HX.out HN.out CF2.out
            have HFL := Lib.hid hF64
            go_upto_region 38 with (fail)
            go_wp2_with (fail)
            refine Calls.mono CR ?_
            rintro y w5 ⟨rfl, ⟨x5, rfl, hx5⟩, hF5⟩
            have PW := pending_walk B d F F [] w5 hx5.1
            have hBT := BT.out.trans hF5.1
            have hRN := hF5.2.texts HRN.out
            have hRV := hF5.2.texts HRV.out
            have HX5 := Lib.hid hx5
            clear CR HX BT HRN HRV hx5 hF5
            have BT := Lib.hid hBT
            have HRN := Lib.hid hRN
            have HRV := Lib.hid hRV
            clear hBT hRN hRV
            go_wp2_with (fail)
            refine Calls.mono PW ?_
            rintro y w6 ⟨rfl, rfl⟩
            clear PW
            have NM := names_walk B d F F [] w6 HX5.out.1
            have HBN := Lib.hid HX5.out.1.lo.2
            go_upto_region 40 with (fail)
            go_wp2_with (fail)
            refine Calls.mono NM ?_
            rintro y w7 ⟨vR, B7, rfl, hB7, hrow, _, hBl7⟩
            obtain ⟨AR, cR, rfl⟩ := row_form hrow
            have hBT := BT.out.trans (hBl7.mono HBN.out)
            have hRN := row_below HRN.out hBl7
            have hRV := row_below HRV.out hBl7
            have hX7 := HX5.out.below hBl7
            clear NM BT HRN HRV HX5 HBN hBl7
            have BT := Lib.hid hBT
            have HRN := Lib.hid hRN
            have HRV := Lib.hid hRV
            have HX7 := Lib.hid hX7
            have HROW := Lib.hid hrow
            have HBL := Lib.hid hX7.1.lo.2
            clear hBT hRN hRV hX7 hrow
            go_upto_region 43 with (fail)
            go_wp2_with (fail)
            go_loopw [20, 21, 22] (fun iv _ _ wy => ∃ q : Nat, iv = .int .i64 q ∧ q ≤ F.length ∧ Below w7.heap.size w7 wy) (fun iv _ _ _ => F.length - (intOf iv).toNat)
            case atStart => exact ⟨0, rfl, by omega, Below.refl _ _⟩
            case round =>
              obtain ⟨wv, rfl⟩ : ∃ Z, Z = wr := ⟨_, rfl⟩
              obtain ⟨q, rfl, hq, hV⟩ := hrel
              have HV := Lib.hid hV
              clear hV
              have q0 : (0 : Int) ≤ q := by omega
              by_cases hql : q < F.length
              · have hql' : (q : Int) < (F.length : Int) := by omega
                obtain ⟨xn, hxn, hlk⟩ := names_at hql
                obtain ⟨gR, e, hcR, _, hgR⟩ := text_at HROW.out hql
                subst e
                obtain ⟨gM, e, hcM, _, hgM⟩ := text_at HRN.out hql
                subst e
                obtain ⟨gV, e, hcV, _, hgV⟩ := text_at HRV.out hql
                subst e
                have hcR' : wv.cell? ⟨gR, q, none⟩ = some (.string ⟨xn.toArray⟩) := by rw [HV.out.cell (p := ⟨gR, q, none⟩) hgR, hcR, List.getElem?_map, hxn]; rfl
                have hcM' : wv.cell? ⟨gM, q, none⟩ = some (.string ⟨xn.toArray⟩) := by rw [HV.out.cell (p := ⟨gM, q, none⟩) hgM, hcM, List.getElem?_map, hxn]; rfl
                have hcV' : wv.cell? ⟨gV, q, none⟩ = some (.string ⟨(valF F xn).toArray⟩) := by rw [HV.out.cell (p := ⟨gV, q, none⟩) hgV, hcV, List.getElem?_map, List.getElem?_map, hxn]; rfl
                have zR := Nat.lt_of_lt_of_le hgR HV.out.size
                have zM := Nat.lt_of_lt_of_le hgM HV.out.size
                have zV := Nat.lt_of_lt_of_le hgV HV.out.size
                have RD := read_named B d ⟨F, F, []⟩ xn wv (HX7.out.below HV.out) hlk
                clear hcR hcM hcV hxn hlk hgR hgM hgV
                have HCR := Lib.hid hcR'
                have HCM := Lib.hid hcM'
                have HCV := Lib.hid hcV'
                go_upto_region 46 with (fail)
                go_wp2_with (fail)
                refine Calls.mono RD ?_
                rintro y w8 ⟨A8, c8, rfl, hr8, hB8⟩
                have hcv : ∀ nn : Nat, (convert 35 9 (.slice A8 (valF F xn).length c8)).run Try.prog (w8.drewN nn) = .ok (.string ⟨(valF F xn).toArray⟩) (w8.drewN nn) := fun nn => RdY.conv (RdY.kept hr8 (KeptY.below (below_drewN (Below.refl _ _) nn)))
                have hcR2 := bel_cell hB8 HCR.out
                have hcM2 := bel_cell hB8 HCM.out
                have hcV2 := bel_cell hB8 HCV.out
                have zR2 := Nat.lt_of_lt_of_le zR hB8.size
                have zM2 := Nat.lt_of_lt_of_le zM hB8.size
                have zV2 := Nat.lt_of_lt_of_le zV hB8.size
                have HV8 := Lib.hid (below_trans HV.out hB8)
                try dsimp only at hcv
                clear RD hr8 hB8 HCR HCM HCV hcR' hcM' hcV' zR zM zV HV
                generalize valF F xn = bs at *
                go_upto_region 47 with (fail)
                go_quiet (fail)
                have HV9 := Lib.hid (below_drewN HV8.out nq)
                clear HV8 hcR2 hcM2 hcV2 zR2 zM2 zV2 hcv
                go_wp2_with (fail)
                go_roundw
                case rel => exact ⟨q + 1, by go_num, by omega, HV9.out⟩
                case measure => simp [intOf]; omega
              · have hql' : ¬ (q : Int) < (F.length : Int) := by omega
                have SW := sure_walk wv
                have hBT := HB1.out.trans (BT.out.trans (HV.out.mono HBL.out))
                have HBT := Lib.hid hBT
                have HBV := Lib.hid (Nat.le_trans HBL.out HV.out.size)
                clear hBT
                go_wp2_with (fail)
                refine Calls.mono SW ?_
                rintro y w9 ⟨rfl, hB9⟩
                have HF := Lib.hid (show Below B w w9 from HBT.out.trans (hB9.mono HBV.out))
                clear SW hB9
                go_wp2_with (fail)
                go_ret
                exact ⟨rfl, by rw [hB]; exact HF.out⟩
      | false =>
        have HX0 := Lib.hid hx
        have BT0 := Lib.hid hBT
        have SY := sure2 B d x wl hx
        clear hI1 hx hBT HI
        go_upto_region 19 with (fail)
        go_wp2_with (fail)
        refine Calls.mono SY ?_
        rintro y wn ⟨rfl, ⟨x2, rfl, hx2⟩, hF2⟩
        obtain ⟨F, hFF⟩ : ∃ F, F = x.now := ⟨_, rfl⟩
        rw [← hFF] at hx2
        obtain ⟨x, hxe⟩ : ∃ q : FS, q = ⟨F, F, []⟩ := ⟨_, rfl⟩
        rw [← hxe] at hx2
        have HX := Lib.hid hx2
        have BT := Lib.hid (BT0.out.trans hF2.1)
        have HSU := Lib.hid (show x.sure = x.now from by rw [hxe])
        clear SY hx2 hF2 hFF hxe HX0 BT0
        have NM := names_walk B d x.now x.sure x.T wn HX.out.1
        have HBN := Lib.hid HX.out.1.lo.2
        go_upto_region 21 with (fail)
        go_wp2_with (fail)
        refine Calls.mono NM ?_
        rintro y w3 ⟨vN, B0, rfl, hB0, hrow, _, hB3⟩
        have HX3 := Lib.hid (HX.out.below hB3)
        have BT3 := Lib.hid (BT.out.trans (hB3.mono HBN.out))
        obtain ⟨AN, cN, rfl⟩ := row_form hrow
        have HROW := Lib.hid hrow
        clear NM hrow hB3 HX BT HBN
        have hF64 := HX3.out.1.an.2
        have hRS := RowsAt.start w3 x.now
        have HRS := Lib.hid hRS
        clear hRS
        go_upto_region 22 with (fail)
        go_wp2_with (fail)
        go_loopw [10, 11, 13, 14, 15] (fun r1 r2 iv _ _ wz => ∃ k : Nat, iv = .int .i64 k ∧ k ≤ x.now.length ∧ RowsAt w3 x.now r1 r2 k wz) (fun _ _ iv _ _ _ => x.now.length - (intOf iv).toNat)
        case atStart => exact ⟨0, rfl, Nat.zero_le _, HRS.out⟩
        case round =>
          obtain ⟨wz, rfl⟩ : ∃ Z, Z = wr := ⟨_, rfl⟩
          obtain ⟨k, rfl, hk, hR⟩ := hrel
          have HR := Lib.hid hR
          clear hR HRS
          have k0 : (0 : Int) ≤ k := by omega
          by_cases hkF : k < x.now.length
          · have hkF' : (k : Int) < (x.now.length : Int) := by omega
            obtain ⟨xn, hxn, hlk⟩ := names_at hkF
            obtain ⟨gN, e, hcN, _, hgN0⟩ := text_at HROW.out hkF
            have hgN := Nat.lt_of_lt_of_le hgN0 HR.out.b.size
            have hcN := (HR.out.b.cell (p := ⟨gN, k, none⟩) hgN0).trans hcN
            subst e
            have hcN' : wz.cell? ⟨gN, k, none⟩ = some (.string ⟨xn.toArray⟩) := by rw [hcN, List.getElem?_map, hxn]; rfl
            clear hcN
            have RD := read_named B d x xn wz (HX3.out.below HR.out.b) hlk
            have HXN := Lib.hid hxn
            clear hxn hlk
            go_upto_region 25 with (fail)
            go_wp2_with (fail)
            refine Calls.mono RD ?_
            rintro y w4 ⟨A4, c4, rfl, hr4, hB4⟩
            have hR4 : RowsAt w3 x.now u10 u11 k w4 := ⟨row_below HR.out.n hB4, row_below HR.out.v hB4, HR.out.ne, HR.out.b.trans (hB4.mono HR.out.b.size)⟩
            have HR4 := Lib.hid hR4
            have hcN4 := bel_cell hB4 hcN'
            have HC4 := Lib.hid hcN4
            have HRY := Lib.hid hr4
            have hgN4 : gN < w4.heap.size := Nat.lt_of_lt_of_le hgN hB4.size
            have S0 := Lib.hid (show w4.cell? ⟨gN, k, none⟩ = some (.string ⟨xn.toArray⟩) ∧ RdY w4 (.slice A4 (valF x.now xn).length c4) (valF x.now xn) ∧ gN < w4.heap.size from ⟨hcN4, hr4, hgN4⟩)
            have HGN := Lib.hid (show gN < w3.heap.size from hgN0)
            clear RD hr4 hB4 hcN4 hcN' HR hgN hgN0
            go_upto_region 28 with (fail)
            generalize hbs : valF x.now xn = bs at *
            have HBS := Lib.hid hbs
            clear hbs
            have hRG : RG w3.heap.size w3 gN k ⟨xn.toArray⟩ (.slice A4 bs.length c4) bs u10 k (((namesF x.now).take k).map Proofs.encStr) u11 k ((((namesF x.now).map (valF x.now)).take k).map Proofs.encStr) w4.drew := RG.drew ⟨HR4.out.n, HR4.out.v, HR4.out.ne, HR4.out.b, HR4.out.b.size, HC4.out, HGN.out, HRY.out⟩
            have HRG := Lib.hid hRG
            have S1 := Lib.hid hRG.held
            have hk20 : k + 1 ≤ 1048576 := by omega
            clear hRG S0 HR4 HRY HC4 hgN4
            refine wp_region_noPanic ?_
            refine wp_region_held_drew (S := (fun w' => S28 gN k ⟨xn.toArray⟩ (.slice A4 bs.length c4) bs w')) (by kernel_rfl) ?_ (fun hHeld => ?_)
            · exact S1.out
            generalize w4.drew = wd at *
            refine reg_take (i := 0) (oi := _) (v := ?_) rfl (by kernel_rfl) (by kernel_rfl) (by kernel_rfl) (fun _ _ _ h => h) (by rfl) ?_ (by assumption) ?_
            rotate_left
            · intro w hSw; (try dsimp only at hSw); have y0 := hSw.1; have y1 := hSw.2.1.conv; have y2 := hSw.2.2; go_simp; try with_reducible rfl
            (try simp only [Act.put, List.setIfInBounds_toArray, List.set_cons_zero, List.set_cons_succ])
            refine reg_take (i := 1) (oi := _) (v := ?_) rfl (by kernel_rfl) (by kernel_rfl) (by kernel_rfl) (fun _ _ _ h => h) (by rfl) ?_ (by assumption) ?_
            rotate_left
            · intro w hSw; (try dsimp only at hSw); have y0 := hSw.1; have y1 := hSw.2.1.conv; have y2 := hSw.2.2; go_simp; try with_reducible rfl
            (try simp only [Act.put, List.setIfInBounds_toArray, List.set_cons_zero, List.set_cons_succ])
            refine reg_take (i := 2) (oi := _) (v := ?_) rfl (by kernel_rfl) (by kernel_rfl) (by kernel_rfl) (fun _ _ _ h => h) (by rfl) ?_ (by assumption) ?_
            rotate_left
            · intro w hSw; (try dsimp only at hSw); have y0 := hSw.1; have y1 := hSw.2.1.conv; have y2 := hSw.2.2; go_simp; try with_reducible rfl
            (try simp only [Act.put, List.setIfInBounds_toArray, List.set_cons_zero, List.set_cons_succ])
            refine reg_take (i := 3) (oi := _) (v := ?_) rfl (by kernel_rfl) (by kernel_rfl) (by kernel_rfl) (fun _ _ _ h => h) (by rfl) ?_ (by assumption) ?_
            rotate_left
            · intro w hSw; (try dsimp only at hSw); have y0 := hSw.1; have y1 := hSw.2.1.conv; have y2 := hSw.2.2; go_simp; try with_reducible rfl
            (try simp only [Act.put, List.setIfInBounds_toArray, List.set_cons_zero, List.set_cons_succ])
            refine reg_take (i := 4) (oi := _) (v := ?_) rfl (by kernel_rfl) (by kernel_rfl) (by kernel_rfl) (fun _ _ _ h => h) (by rfl) ?_ (by assumption) ?_
            rotate_left
            · intro w hSw; (try dsimp only at hSw); have y0 := hSw.1; have y1 := hSw.2.1.conv; have y2 := hSw.2.2; go_simp; try with_reducible rfl
            (try simp only [Act.put, List.setIfInBounds_toArray, List.set_cons_zero, List.set_cons_succ])
            refine reg_take (i := 7) (oi := _) (v := ?_) rfl (by kernel_rfl) (by kernel_rfl) (by kernel_rfl) (fun _ _ _ h => h) (by rfl) ?_ (by assumption) ?_
            rotate_left
            · intro w hSw; (try dsimp only at hSw); have y0 := hSw.1; have y1 := hSw.2.1.conv; have y2 := hSw.2.2; go_simp; try with_reducible rfl
            (try simp only [Act.put, List.setIfInBounds_toArray, List.set_cons_zero, List.set_cons_succ])
            refine reg_take (i := 8) (oi := _) (v := ?_) rfl (by kernel_rfl) (by kernel_rfl) (by kernel_rfl) (fun _ _ _ h => h) (by rfl) ?_ (by assumption) ?_
            rotate_left
            · intro w hSw; (try dsimp only at hSw); have y0 := hSw.1; have y1 := hSw.2.1.conv; have y2 := hSw.2.2; go_simp; try with_reducible rfl
            (try simp only [Act.put, List.setIfInBounds_toArray, List.set_cons_zero, List.set_cons_succ])
            refine reg_take (i := 9) (oi := _) (v := ?_) rfl (by kernel_rfl) (by kernel_rfl) (by kernel_rfl) (fun _ _ _ h => h) (by rfl) ?_ (by assumption) ?_
            rotate_left
            · intro w hSw; (try dsimp only at hSw); have y0 := hSw.1; have y1 := hSw.2.1.conv; have y2 := hSw.2.2; go_simp; try with_reducible rfl
            (try simp only [Act.put, List.setIfInBounds_toArray, List.set_cons_zero, List.set_cons_succ])
            refine wpAnyH_ready (rs := [5, 10]) (by kernel_rfl) (by simp) ?_
            refine reg_each (o := _) rfl (fun K hK => ?_) ?_
            · skip
              go_simp
              refine hK.out _ _ ?_ (fun hHeld2 => ?_)
              · exact (HRG.out.alloc _).held
              clear hK K hHeld
              have hHeld := hHeld2
              clear hHeld2
              (try simp only [Act.put, List.setIfInBounds_toArray, List.set_cons_zero, List.set_cons_succ])
              have RG0 := Lib.hid (HRG.out.alloc (.cells #[.string ⟨xn.toArray⟩] 9))
              have P5 := Lib.hid (new_cell wd ⟨xn.toArray⟩)
              have N5 := Lib.hid HRG.out.no1
              generalize wd.alloc (Obj.cells #[.string ⟨xn.toArray⟩] 9) = wx0 at *
              generalize wd.heap.size = p5 at *
              clear HRG
              refine wpAnyH_ready (rs := [6, 10]) (by kernel_rfl) (by simp) ?_
              refine reg_each (o := _) rfl (fun K hK => ?_) ?_
              · skip
                refine step_append_t rfl (.tmp 104) (.tmp 109) rfl w3.heap.size u10 k _ ⟨xn.toArray⟩ ⟨p5, 0, none⟩ 1 rfl rfl RG0.out.n P5.out hk20 RG0.out.l ?_
                intro r6 wq own6 gr6 at6
                refine hK.out _ _ ?_ (fun hHeld2 => ?_)
                · exact (RG0.out.app1 own6 gr6 at6).held
                clear hK K hHeld
                have hHeld := hHeld2
                clear hHeld2
                (try simp only [Act.put, List.setIfInBounds_toArray, List.set_cons_zero, List.set_cons_succ])
                have RG1 := Lib.hid (RG0.out.app1 own6 gr6 at6)
                clear own6 gr6 at6 RG0
                obtain ⟨wx1, hwq⟩ : ∃ z, z = wq := ⟨_, rfl⟩
                subst hwq
                refine wpAnyH_ready (rs := [10]) (by kernel_rfl) (by simp) ?_
                refine reg_each (o := _) rfl (fun K hK => ?_) ?_
                · skip
                  go_simp
                  refine hK.out _ _ ?_ (fun hHeld2 => ?_)
                  · exact (RG1.out.alloc _).held
                  clear hK K hHeld
                  have hHeld := hHeld2
                  clear hHeld2
                  (try simp only [Act.put, List.setIfInBounds_toArray, List.set_cons_zero, List.set_cons_succ])
                  have RG2 := Lib.hid (RG1.out.alloc (.cells #[.string ⟨bs.toArray⟩] 9))
                  have P10 := Lib.hid (new_cell wx1 ⟨bs.toArray⟩)
                  have N10 := Lib.hid RG1.out.no2
                  generalize wx1.alloc (Obj.cells #[.string ⟨bs.toArray⟩] 9) = wx2 at *
                  generalize wx1.heap.size = p10 at *
                  clear RG1
                  refine wpAnyH_ready (rs := [11]) (by kernel_rfl) (by simp) ?_
                  refine reg_each (o := _) rfl (fun K hK => ?_) ?_
                  · skip
                    refine step_append_t rfl (.tmp 111) (.tmp 114) rfl w3.heap.size u11 k _ ⟨bs.toArray⟩ ⟨p10, 0, none⟩ 1 rfl rfl RG2.out.v P10.out hk20 RG2.out.l ?_
                    intro r11 wq own11 gr11 at11
                    refine hK.out _ _ ?_ (fun hHeld2 => ?_)
                    · exact (RG2.out.app2 own11 gr11 at11).held
                    clear hK K hHeld
                    have hHeld := hHeld2
                    clear hHeld2
                    (try simp only [Act.put, List.setIfInBounds_toArray, List.set_cons_zero, List.set_cons_succ])
                    have RG3 := Lib.hid (RG2.out.app2 own11 gr11 at11)
                    clear own11 gr11 at11 RG2
                    obtain ⟨wx3, hwq⟩ : ∃ z, z = wq := ⟨_, rfl⟩
                    subst hwq
                    refine reg_take (i := 12) (oi := _) (v := ?_) rfl (by kernel_rfl) (by kernel_rfl) (by kernel_rfl) (fun _ _ _ h => h) (by rfl) ?_ (by assumption) ?_
                    rotate_left
                    · intro w hSw; (try dsimp only at hSw); have y0 := hSw.1; have y1 := hSw.2.1.conv; have y2 := hSw.2.2; go_simp; try with_reducible rfl
                    (try simp only [Act.put, List.setIfInBounds_toArray, List.set_cons_zero, List.set_cons_succ])
                    refine reg_take (i := 13) (oi := _) (v := ?_) rfl (by kernel_rfl) (by kernel_rfl) (by kernel_rfl) (fun _ _ _ h => h) (by rfl) ?_ (by assumption) ?_
                    rotate_left
                    · intro w hSw; (try dsimp only at hSw); have y0 := hSw.1; have y1 := hSw.2.1.conv; have y2 := hSw.2.2; go_simp; try with_reducible rfl
                    (try simp only [Act.put, List.setIfInBounds_toArray, List.set_cons_zero, List.set_cons_succ])
                    refine wpAnyH_done (by kernel_rfl) ?_ _
                    refine NoPanic.normal ?_
                    have HNR := Lib.hid (show RowsAt w3 x.now r6 r11 (k + 1) wx3 from ⟨by rw [rows_next HXN.out]; exact RG3.out.n, by rw [rows_next (by rw [List.getElem?_map, HXN.out]; rfl : ((namesF x.now).map (valF x.now))[k]? = some (valF x.now xn)), HBS.out]; exact RG3.out.v, RG3.out.ne, RG3.out.b⟩)
                    clear hHeld RG3
                    go_wp2_with (fail)
                    go_roundw
                    case rel => exact ⟨k + 1, by go_num, by omega, HNR.out⟩
                    case measure => simp [intOf]; omega
                  exact AllReadyH.nil
                exact AllReadyH.nil
              refine reg_each (o := _) rfl (fun K hK => ?_) ?_
              · skip
                go_simp
                refine hK.out _ _ ?_ (fun hHeld2 => ?_)
                · exact (RG0.out.alloc _).held
                clear hK K hHeld
                have hHeld := hHeld2
                clear hHeld2
                (try simp only [Act.put, List.setIfInBounds_toArray, List.set_cons_zero, List.set_cons_succ])
                have RG1 := Lib.hid (RG0.out.alloc (.cells #[.string ⟨bs.toArray⟩] 9))
                have P10 := Lib.hid (new_cell wx0 ⟨bs.toArray⟩)
                have N10 := Lib.hid RG0.out.no2
                have M10 := Lib.hid RG0.out.no1
                have P5 := Lib.hid (bel_cell ((Below.refl wx0.heap.size wx0).alloc (Nat.le_refl _) (.cells #[.string ⟨bs.toArray⟩] 9)) P5.out)
                generalize wx0.alloc (Obj.cells #[.string ⟨bs.toArray⟩] 9) = wx1 at *
                generalize wx0.heap.size = p10 at *
                clear RG0
                refine wpAnyH_ready (rs := [6]) (by kernel_rfl) (by simp) ?_
                refine reg_each (o := _) rfl (fun K hK => ?_) ?_
                · skip
                  refine step_append_t rfl (.tmp 104) (.tmp 109) rfl w3.heap.size u10 k _ ⟨xn.toArray⟩ ⟨p5, 0, none⟩ 1 rfl rfl RG1.out.n P5.out hk20 RG1.out.l ?_
                  intro r6 wq own6 gr6 at6
                  refine hK.out _ _ ?_ (fun hHeld2 => ?_)
                  · exact (RG1.out.app1 own6 gr6 at6).held
                  clear hK K hHeld
                  have hHeld := hHeld2
                  clear hHeld2
                  (try simp only [Act.put, List.setIfInBounds_toArray, List.set_cons_zero, List.set_cons_succ])
                  have RG2 := Lib.hid (RG1.out.app1 own6 gr6 at6)
                  have P10 := Lib.hid (grown_cell gr6 P10.out M10.out)
                  clear own6 gr6 at6 RG1
                  obtain ⟨wx2, hwq⟩ : ∃ z, z = wq := ⟨_, rfl⟩
                  subst hwq
                  refine wpAnyH_ready (rs := [11]) (by kernel_rfl) (by simp) ?_
                  refine reg_each (o := _) rfl (fun K hK => ?_) ?_
                  · skip
                    refine step_append_t rfl (.tmp 111) (.tmp 114) rfl w3.heap.size u11 k _ ⟨bs.toArray⟩ ⟨p10, 0, none⟩ 1 rfl rfl RG2.out.v P10.out hk20 RG2.out.l ?_
                    intro r11 wq own11 gr11 at11
                    refine hK.out _ _ ?_ (fun hHeld2 => ?_)
                    · exact (RG2.out.app2 own11 gr11 at11).held
                    clear hK K hHeld
                    have hHeld := hHeld2
                    clear hHeld2
                    (try simp only [Act.put, List.setIfInBounds_toArray, List.set_cons_zero, List.set_cons_succ])
                    have RG3 := Lib.hid (RG2.out.app2 own11 gr11 at11)
                    clear own11 gr11 at11 RG2
                    obtain ⟨wx3, hwq⟩ : ∃ z, z = wq := ⟨_, rfl⟩
                    subst hwq
                    refine reg_take (i := 12) (oi := _) (v := ?_) rfl (by kernel_rfl) (by kernel_rfl) (by kernel_rfl) (fun _ _ _ h => h) (by rfl) ?_ (by assumption) ?_
                    rotate_left
                    · intro w hSw; (try dsimp only at hSw); have y0 := hSw.1; have y1 := hSw.2.1.conv; have y2 := hSw.2.2; go_simp; try with_reducible rfl
                    (try simp only [Act.put, List.setIfInBounds_toArray, List.set_cons_zero, List.set_cons_succ])
                    refine reg_take (i := 13) (oi := _) (v := ?_) rfl (by kernel_rfl) (by kernel_rfl) (by kernel_rfl) (fun _ _ _ h => h) (by rfl) ?_ (by assumption) ?_
                    rotate_left
                    · intro w hSw; (try dsimp only at hSw); have y0 := hSw.1; have y1 := hSw.2.1.conv; have y2 := hSw.2.2; go_simp; try with_reducible rfl
                    (try simp only [Act.put, List.setIfInBounds_toArray, List.set_cons_zero, List.set_cons_succ])
                    refine wpAnyH_done (by kernel_rfl) ?_ _
                    refine NoPanic.normal ?_
                    have HNR := Lib.hid (show RowsAt w3 x.now r6 r11 (k + 1) wx3 from ⟨by rw [rows_next HXN.out]; exact RG3.out.n, by rw [rows_next (by rw [List.getElem?_map, HXN.out]; rfl : ((namesF x.now).map (valF x.now))[k]? = some (valF x.now xn)), HBS.out]; exact RG3.out.v, RG3.out.ne, RG3.out.b⟩)
                    clear hHeld RG3
                    go_wp2_with (fail)
                    go_roundw
                    case rel => exact ⟨k + 1, by go_num, by omega, HNR.out⟩
                    case measure => simp [intOf]; omega
                  exact AllReadyH.nil
                exact AllReadyH.nil
              exact AllReadyH.nil
            refine reg_each (o := _) rfl (fun K hK => ?_) ?_
            · skip
              go_simp
              refine hK.out _ _ ?_ (fun hHeld2 => ?_)
              · exact (HRG.out.alloc _).held
              clear hK K hHeld
              have hHeld := hHeld2
              clear hHeld2
              (try simp only [Act.put, List.setIfInBounds_toArray, List.set_cons_zero, List.set_cons_succ])
              have RG0 := Lib.hid (HRG.out.alloc (.cells #[.string ⟨bs.toArray⟩] 9))
              have P10 := Lib.hid (new_cell wd ⟨bs.toArray⟩)
              have N10 := Lib.hid HRG.out.no2
              have M10 := Lib.hid HRG.out.no1
              generalize wd.alloc (Obj.cells #[.string ⟨bs.toArray⟩] 9) = wx0 at *
              generalize wd.heap.size = p10 at *
              clear HRG
              refine wpAnyH_ready (rs := [5]) (by kernel_rfl) (by simp) ?_
              refine reg_each (o := _) rfl (fun K hK => ?_) ?_
              · skip
                go_simp
                refine hK.out _ _ ?_ (fun hHeld2 => ?_)
                · exact (RG0.out.alloc _).held
                clear hK K hHeld
                have hHeld := hHeld2
                clear hHeld2
                (try simp only [Act.put, List.setIfInBounds_toArray, List.set_cons_zero, List.set_cons_succ])
                have RG1 := Lib.hid (RG0.out.alloc (.cells #[.string ⟨xn.toArray⟩] 9))
                have P5 := Lib.hid (new_cell wx0 ⟨xn.toArray⟩)
                have N5 := Lib.hid RG0.out.no1
                have P10 := Lib.hid (bel_cell ((Below.refl wx0.heap.size wx0).alloc (Nat.le_refl _) (.cells #[.string ⟨xn.toArray⟩] 9)) P10.out)
                generalize wx0.alloc (Obj.cells #[.string ⟨xn.toArray⟩] 9) = wx1 at *
                generalize wx0.heap.size = p5 at *
                clear RG0
                refine wpAnyH_ready (rs := [6]) (by kernel_rfl) (by simp) ?_
                refine reg_each (o := _) rfl (fun K hK => ?_) ?_
                · skip
                  refine step_append_t rfl (.tmp 104) (.tmp 109) rfl w3.heap.size u10 k _ ⟨xn.toArray⟩ ⟨p5, 0, none⟩ 1 rfl rfl RG1.out.n P5.out hk20 RG1.out.l ?_
                  intro r6 wq own6 gr6 at6
                  refine hK.out _ _ ?_ (fun hHeld2 => ?_)
                  · exact (RG1.out.app1 own6 gr6 at6).held
                  clear hK K hHeld
                  have hHeld := hHeld2
                  clear hHeld2
                  (try simp only [Act.put, List.setIfInBounds_toArray, List.set_cons_zero, List.set_cons_succ])
                  have RG2 := Lib.hid (RG1.out.app1 own6 gr6 at6)
                  have P10 := Lib.hid (grown_cell gr6 P10.out M10.out)
                  clear own6 gr6 at6 RG1
                  obtain ⟨wx2, hwq⟩ : ∃ z, z = wq := ⟨_, rfl⟩
                  subst hwq
                  refine wpAnyH_ready (rs := [11]) (by kernel_rfl) (by simp) ?_
                  refine reg_each (o := _) rfl (fun K hK => ?_) ?_
                  · skip
                    refine step_append_t rfl (.tmp 111) (.tmp 114) rfl w3.heap.size u11 k _ ⟨bs.toArray⟩ ⟨p10, 0, none⟩ 1 rfl rfl RG2.out.v P10.out hk20 RG2.out.l ?_
                    intro r11 wq own11 gr11 at11
                    refine hK.out _ _ ?_ (fun hHeld2 => ?_)
                    · exact (RG2.out.app2 own11 gr11 at11).held
                    clear hK K hHeld
                    have hHeld := hHeld2
                    clear hHeld2
                    (try simp only [Act.put, List.setIfInBounds_toArray, List.set_cons_zero, List.set_cons_succ])
                    have RG3 := Lib.hid (RG2.out.app2 own11 gr11 at11)
                    clear own11 gr11 at11 RG2
                    obtain ⟨wx3, hwq⟩ : ∃ z, z = wq := ⟨_, rfl⟩
                    subst hwq
                    refine reg_take (i := 12) (oi := _) (v := ?_) rfl (by kernel_rfl) (by kernel_rfl) (by kernel_rfl) (fun _ _ _ h => h) (by rfl) ?_ (by assumption) ?_
                    rotate_left
                    · intro w hSw; (try dsimp only at hSw); have y0 := hSw.1; have y1 := hSw.2.1.conv; have y2 := hSw.2.2; go_simp; try with_reducible rfl
                    (try simp only [Act.put, List.setIfInBounds_toArray, List.set_cons_zero, List.set_cons_succ])
                    refine reg_take (i := 13) (oi := _) (v := ?_) rfl (by kernel_rfl) (by kernel_rfl) (by kernel_rfl) (fun _ _ _ h => h) (by rfl) ?_ (by assumption) ?_
                    rotate_left
                    · intro w hSw; (try dsimp only at hSw); have y0 := hSw.1; have y1 := hSw.2.1.conv; have y2 := hSw.2.2; go_simp; try with_reducible rfl
                    (try simp only [Act.put, List.setIfInBounds_toArray, List.set_cons_zero, List.set_cons_succ])
                    refine wpAnyH_done (by kernel_rfl) ?_ _
                    refine NoPanic.normal ?_
                    have HNR := Lib.hid (show RowsAt w3 x.now r6 r11 (k + 1) wx3 from ⟨by rw [rows_next HXN.out]; exact RG3.out.n, by rw [rows_next (by rw [List.getElem?_map, HXN.out]; rfl : ((namesF x.now).map (valF x.now))[k]? = some (valF x.now xn)), HBS.out]; exact RG3.out.v, RG3.out.ne, RG3.out.b⟩)
                    clear hHeld RG3
                    go_wp2_with (fail)
                    go_roundw
                    case rel => exact ⟨k + 1, by go_num, by omega, HNR.out⟩
                    case measure => simp [intOf]; omega
                  exact AllReadyH.nil
                exact AllReadyH.nil
              exact AllReadyH.nil
            exact AllReadyH.nil
          · have hkF' : ¬ (k : Int) < (x.now.length : Int) := by omega
            obtain rfl : k = x.now.length := by omega
            have hRN := HR.out.n
            have hRV := HR.out.v
            rw [List.take_of_length_le (by unfold namesF; simp)] at hRN hRV
            have hHX := HX3.out.below HR.out.b
            have hBT := BT3.out.trans (HR.out.b.mono HX3.out.1.lo.2)
            obtain ⟨AM, cM, rfl⟩ := row_form hRN
            obtain ⟨AV, cV, rfl⟩ := row_form hRV
            have HRN := Lib.hid hRN
            have HRV := Lib.hid hRV
            have HX := Lib.hid hHX
            have BT := Lib.hid hBT
            clear hRN hRV hHX hBT HR HX3 BT3 HROW k0 hk hkF hkF'
            generalize w3.heap.size = b3 at *
            have PW := pending_walk B d x.now x.sure x.T wz HX.out.1
            go_upto_region 29 with (fail)
            go_wp2_with (fail)
            refine Calls.mono PW ?_
            rintro y wp ⟨rfl, rfl⟩
            clear PW
            have HLJ := Lib.hid (show LoJ B d x.now wp wp from ⟨Fr.refl _ _, x, HX.out, HSU.out⟩)
            clear HX HSU
            generalize hF : x.now = F at *
            clear hF
            go_upto_region 31 with (fail)
            go_wp2_with (fail)
            go_loopw [17, 18] (fun iv _ wy => ∃ k : Nat, iv = .int .i64 k ∧ k ≤ 30 ∧ LoJ B d F wp wy) (fun iv _ _ => 30 - (intOf iv).toNat)
            case atStart => exact ⟨0, rfl, by omega, HLJ.out⟩
            case round =>
              obtain ⟨wy, rfl⟩ : ∃ Z, Z = wr := ⟨_, rfl⟩
              obtain ⟨k, rfl, hk, hJ⟩ := hrel
              have HJ := Lib.hid hJ
              clear hJ HLJ
              have k0 : (0 : Int) ≤ k := by omega
              by_cases hkl : k < L2.length
              · have hkl' : (k : Int) < (L2.length : Int) := by omega
                by_cases hk30 : k < 30
                · have hk30' : (k : Int) < 30 := by omega
                  obtain ⟨g, o, rfl, ha⟩ := (HA2.out.below (BT.out.trans HJ.out.1.1) (Nat.le_refl _)).at_ hkl
                  generalize L2.getD k ac0 = a at *
                  obtain ⟨kind, name, dst, b, st, pt⟩ := a
                  obtain ⟨x0, x1, x2, x3, x4c, x5c⟩ := ha
                  dsimp only at x0 x1 x2 x3 x4c x5c
                  have zg := World.block_lt_of_cell? _ _ x0
                  have hmod : ((IntKind.u64.wrap kind).tmod 6) = acM (⟨kind, name, dst, b, st, pt⟩ : Ac) := rfl
                  have hm := acM_bd (⟨kind, name, dst, b, st, pt⟩ : Ac)
                  have hmw : IntKind.i64.wrap (acM (⟨kind, name, dst, b, st, pt⟩ : Ac)) = acM (⟨kind, name, dst, b, st, pt⟩ : Ac) := by rw [IntKind.wrap_i64]; omega
                  obtain ⟨m, hmm⟩ : ∃ m, acM (⟨kind, name, dst, b, st, pt⟩ : Ac) = m := ⟨_, rfl⟩
                  rw [hmm] at hmod hm hmw
                  by_cases hm4 : m < 4
                  · have HMM := Lib.hid (show acM (⟨kind, name, dst, b, st, pt⟩ : Ac) < 4 by rw [hmm]; exact hm4)
                    clear hmm
                    by_cases hlong : b.size ≤ 3000
                    · have hlong' : (b.size : Int) ≤ 3000 := by omega
                      obtain ⟨hfr, x4, hx4, hs4⟩ := HJ.out
                      have hm4n : acM (⟨kind, name, dst, b, st, pt⟩ : Ac) ≠ 4 := by have := HMM.out; omega
                      have CW := act_walk B d (⟨kind, name, dst, b, st, pt⟩ : Ac) (by show b.size ≤ 1000000; omega) x4 wy hx4
                      have HFR := Lib.hid hfr
                      have HS4 := Lib.hid hs4
                      have HM4 := Lib.hid hm4n
                      clear hfr hx4 hs4 hm4n HJ
                      go_wp2_with (fail)
                      refine Calls.mono CW ?_
                      rintro y w5 ⟨rfl, ⟨x5, hd5, hx5⟩, hF5⟩
                      have HNX := Lib.hid (show LoJ B d F wp w5 from ⟨HFR.out.trans hF5, x5, hx5, (do_sure hd5 HM4.out).trans HS4.out⟩)
                      clear CW hd5 hx5 hF5 x0 x1 x2 x3 x4c x5c
                      go_wp2_with (fail)
                      go_roundw
                      case rel => exact ⟨k + 1, by go_num, by omega, HNX.out⟩
                      case measure => simp [intOf]; omega
                    · have hlong' : ¬ (b.size : Int) ≤ 3000 := by omega
                      clear HMM
                      go_wp2_with (fail)
                      go_roundw
                      case rel => exact ⟨k + 1, by go_num, by omega, HJ.out⟩
                      case measure => simp [intOf]; omega
                  · clear hmm
                    go_wp2_with (fail)
                    go_roundw
                    case rel => exact ⟨k + 1, by go_num, by omega, HJ.out⟩
                    case measure => simp [intOf]; omega
                · have hk30' : ¬ (k : Int) < 30 := by omega
                  obtain ⟨hfr, x4, hx4, hs4⟩ := HJ.out
                  have hBT2 := BT.out.trans hfr.1
                  have hRN := hfr.2.texts HRN.out
                  have hRV := hfr.2.texts HRV.out
                  clear BT HRN HRV HJ
                  have BT := Lib.hid hBT2
                  have HRN := Lib.hid hRN
                  have HRV := Lib.hid hRV
                  have HX := Lib.hid hx4
                  have CF := Lib.hid (show crashF x4.sure x4.T 0 0 = F by rw [hs4]; exact crash_none F _)
                  have HN := Lib.hid (Nat.zero_le x4.T.length)
                  clear hfr hx4 hs4 hBT2 hRN hRV
                  obtain ⟨n, hn⟩ : ∃ n : Nat, n = 0 := ⟨_, rfl⟩
                  have hn0 : ((0 : Nat) : Int) = (n : Int) := by rw [hn]
                  obtain ⟨wp, hwp⟩ : ∃ z, z = wy := ⟨_, rfl⟩
                  subst hwp
                  obtain ⟨x, hxx⟩ : ∃ z, z = x4 := ⟨_, rfl⟩
                  subst hxx
                  have CF2 := Lib.hid (show crashF x.sure x.T n 0 = F by rw [hn]; exact CF.out)
                  have HN2 := Lib.hid (show n ≤ x.T.length by omega)
                  clear hn CF HN
                  have HN := HN2
                  have CR := crash_fine B d x n F wp HX.out HN.out CF2.out
                  have HFL := Lib.hid hF64
                  go_upto_region 38 with (fail)
                  go_wp2_with (fail)
                  have hnz : (n : Int) = 0 := by rw [← hn0]; rfl
                  rw [hnz] at CR
                  clear hn0 hnz
                  refine Calls.mono CR ?_
                  rintro y w5 ⟨rfl, ⟨x5, rfl, hx5⟩, hF5⟩
                  have PW := pending_walk B d F F [] w5 hx5.1
                  have hBT := BT.out.trans hF5.1
                  have hRN := hF5.2.texts HRN.out
                  have hRV := hF5.2.texts HRV.out
                  have HX5 := Lib.hid hx5
                  clear CR HX BT HRN HRV hx5 hF5
                  have BT := Lib.hid hBT
                  have HRN := Lib.hid hRN
                  have HRV := Lib.hid hRV
                  clear hBT hRN hRV
                  go_wp2_with (fail)
                  refine Calls.mono PW ?_
                  rintro y w6 ⟨rfl, rfl⟩
                  clear PW
                  have NM := names_walk B d F F [] w6 HX5.out.1
                  have HBN := Lib.hid HX5.out.1.lo.2
                  go_upto_region 40 with (fail)
                  go_wp2_with (fail)
                  refine Calls.mono NM ?_
                  rintro y w7 ⟨vR, B7, rfl, hB7, hrow, _, hBl7⟩
                  obtain ⟨AR, cR, rfl⟩ := row_form hrow
                  have hBT := BT.out.trans (hBl7.mono HBN.out)
                  have hRN := row_below HRN.out hBl7
                  have hRV := row_below HRV.out hBl7
                  have hX7 := HX5.out.below hBl7
                  clear NM BT HRN HRV HX5 HBN hBl7
                  have BT := Lib.hid hBT
                  have HRN := Lib.hid hRN
                  have HRV := Lib.hid hRV
                  have HX7 := Lib.hid hX7
                  have HROW := Lib.hid hrow
                  have HBL := Lib.hid hX7.1.lo.2
                  clear hBT hRN hRV hX7 hrow
                  go_upto_region 43 with (fail)
                  go_wp2_with (fail)
                  go_loopw [20, 21, 22] (fun iv _ _ wy => ∃ q : Nat, iv = .int .i64 q ∧ q ≤ F.length ∧ Below w7.heap.size w7 wy) (fun iv _ _ _ => F.length - (intOf iv).toNat)
                  case atStart => exact ⟨0, rfl, by omega, Below.refl _ _⟩
                  case round =>
                    obtain ⟨wv, rfl⟩ : ∃ Z, Z = wr := ⟨_, rfl⟩
                    obtain ⟨q, rfl, hq, hV⟩ := hrel
                    have HV := Lib.hid hV
                    clear hV
                    have q0 : (0 : Int) ≤ q := by omega
                    by_cases hql : q < F.length
                    · have hql' : (q : Int) < (F.length : Int) := by omega
                      obtain ⟨xn, hxn, hlk⟩ := names_at hql
                      obtain ⟨gR, e, hcR, _, hgR⟩ := text_at HROW.out hql
                      subst e
                      obtain ⟨gM, e, hcM, _, hgM⟩ := text_at HRN.out hql
                      subst e
                      obtain ⟨gV, e, hcV, _, hgV⟩ := text_at HRV.out hql
                      subst e
                      have hcR' : wv.cell? ⟨gR, q, none⟩ = some (.string ⟨xn.toArray⟩) := by rw [HV.out.cell (p := ⟨gR, q, none⟩) hgR, hcR, List.getElem?_map, hxn]; rfl
                      have hcM' : wv.cell? ⟨gM, q, none⟩ = some (.string ⟨xn.toArray⟩) := by rw [HV.out.cell (p := ⟨gM, q, none⟩) hgM, hcM, List.getElem?_map, hxn]; rfl
                      have hcV' : wv.cell? ⟨gV, q, none⟩ = some (.string ⟨(valF F xn).toArray⟩) := by rw [HV.out.cell (p := ⟨gV, q, none⟩) hgV, hcV, List.getElem?_map, List.getElem?_map, hxn]; rfl
                      have zR := Nat.lt_of_lt_of_le hgR HV.out.size
                      have zM := Nat.lt_of_lt_of_le hgM HV.out.size
                      have zV := Nat.lt_of_lt_of_le hgV HV.out.size
                      have RD := read_named B d ⟨F, F, []⟩ xn wv (HX7.out.below HV.out) hlk
                      clear hcR hcM hcV hxn hlk hgR hgM hgV
                      have HCR := Lib.hid hcR'
                      have HCM := Lib.hid hcM'
                      have HCV := Lib.hid hcV'
                      go_upto_region 46 with (fail)
                      go_wp2_with (fail)
                      refine Calls.mono RD ?_
                      rintro y w8 ⟨A8, c8, rfl, hr8, hB8⟩
                      have hcv : ∀ nn : Nat, (convert 35 9 (.slice A8 (valF F xn).length c8)).run Try.prog (w8.drewN nn) = .ok (.string ⟨(valF F xn).toArray⟩) (w8.drewN nn) := fun nn => RdY.conv (RdY.kept hr8 (KeptY.below (below_drewN (Below.refl _ _) nn)))
                      have hcR2 := bel_cell hB8 HCR.out
                      have hcM2 := bel_cell hB8 HCM.out
                      have hcV2 := bel_cell hB8 HCV.out
                      have zR2 := Nat.lt_of_lt_of_le zR hB8.size
                      have zM2 := Nat.lt_of_lt_of_le zM hB8.size
                      have zV2 := Nat.lt_of_lt_of_le zV hB8.size
                      have HV8 := Lib.hid (below_trans HV.out hB8)
                      try dsimp only at hcv
                      clear RD hr8 hB8 HCR HCM HCV hcR' hcM' hcV' zR zM zV HV
                      generalize valF F xn = bs at *
                      go_upto_region 47 with (fail)
                      go_quiet (fail)
                      have HV9 := Lib.hid (below_drewN HV8.out nq)
                      clear HV8 hcR2 hcM2 hcV2 zR2 zM2 zV2 hcv
                      go_wp2_with (fail)
                      go_roundw
                      case rel => exact ⟨q + 1, by go_num, by omega, HV9.out⟩
                      case measure => simp [intOf]; omega
                    · have hql' : ¬ (q : Int) < (F.length : Int) := by omega
                      have SW := sure_walk wv
                      have hBT := HB1.out.trans (BT.out.trans (HV.out.mono HBL.out))
                      have HBT := Lib.hid hBT
                      have HBV := Lib.hid (Nat.le_trans HBL.out HV.out.size)
                      clear hBT
                      go_wp2_with (fail)
                      refine Calls.mono SW ?_
                      rintro y w9 ⟨rfl, hB9⟩
                      have HF := Lib.hid (show Below B w w9 from HBT.out.trans (hB9.mono HBV.out))
                      clear SW hB9
                      go_wp2_with (fail)
                      go_ret
                      exact ⟨rfl, by rw [hB]; exact HF.out⟩
              · have hkl' : ¬ (k : Int) < (L2.length : Int) := by omega
                obtain ⟨hfr, x4, hx4, hs4⟩ := HJ.out
                have hBT2 := BT.out.trans hfr.1
                have hRN := hfr.2.texts HRN.out
                have hRV := hfr.2.texts HRV.out
                clear BT HRN HRV HJ
                have BT := Lib.hid hBT2
                have HRN := Lib.hid hRN
                have HRV := Lib.hid hRV
                have HX := Lib.hid hx4
                have CF := Lib.hid (show crashF x4.sure x4.T 0 0 = F by rw [hs4]; exact crash_none F _)
                have HN := Lib.hid (Nat.zero_le x4.T.length)
                clear hfr hx4 hs4 hBT2 hRN hRV
                obtain ⟨n, hn⟩ : ∃ n : Nat, n = 0 := ⟨_, rfl⟩
                have hn0 : ((0 : Nat) : Int) = (n : Int) := by rw [hn]
                obtain ⟨wp, hwp⟩ : ∃ z, z = wy := ⟨_, rfl⟩
                subst hwp
                obtain ⟨x, hxx⟩ : ∃ z, z = x4 := ⟨_, rfl⟩
                subst hxx
                have CF2 := Lib.hid (show crashF x.sure x.T n 0 = F by rw [hn]; exact CF.out)
                have HN2 := Lib.hid (show n ≤ x.T.length by omega)
                clear hn CF HN
                have HN := HN2
                have CR := crash_fine B d x n F wp HX.out HN.out CF2.out
                have HFL := Lib.hid hF64
                go_upto_region 38 with (fail)
                go_wp2_with (fail)
                have hnz : (n : Int) = 0 := by rw [← hn0]; rfl
                rw [hnz] at CR
                clear hn0 hnz
                refine Calls.mono CR ?_
                rintro y w5 ⟨rfl, ⟨x5, rfl, hx5⟩, hF5⟩
                have PW := pending_walk B d F F [] w5 hx5.1
                have hBT := BT.out.trans hF5.1
                have hRN := hF5.2.texts HRN.out
                have hRV := hF5.2.texts HRV.out
                have HX5 := Lib.hid hx5
                clear CR HX BT HRN HRV hx5 hF5
                have BT := Lib.hid hBT
                have HRN := Lib.hid hRN
                have HRV := Lib.hid hRV
                clear hBT hRN hRV
                go_wp2_with (fail)
                refine Calls.mono PW ?_
                rintro y w6 ⟨rfl, rfl⟩
                clear PW
                have NM := names_walk B d F F [] w6 HX5.out.1
                have HBN := Lib.hid HX5.out.1.lo.2
                go_upto_region 40 with (fail)
                go_wp2_with (fail)
                refine Calls.mono NM ?_
                rintro y w7 ⟨vR, B7, rfl, hB7, hrow, _, hBl7⟩
                obtain ⟨AR, cR, rfl⟩ := row_form hrow
                have hBT := BT.out.trans (hBl7.mono HBN.out)
                have hRN := row_below HRN.out hBl7
                have hRV := row_below HRV.out hBl7
                have hX7 := HX5.out.below hBl7
                clear NM BT HRN HRV HX5 HBN hBl7
                have BT := Lib.hid hBT
                have HRN := Lib.hid hRN
                have HRV := Lib.hid hRV
                have HX7 := Lib.hid hX7
                have HROW := Lib.hid hrow
                have HBL := Lib.hid hX7.1.lo.2
                clear hBT hRN hRV hX7 hrow
                go_upto_region 43 with (fail)
                go_wp2_with (fail)
                go_loopw [20, 21, 22] (fun iv _ _ wy => ∃ q : Nat, iv = .int .i64 q ∧ q ≤ F.length ∧ Below w7.heap.size w7 wy) (fun iv _ _ _ => F.length - (intOf iv).toNat)
                case atStart => exact ⟨0, rfl, by omega, Below.refl _ _⟩
                case round =>
                  obtain ⟨wv, rfl⟩ : ∃ Z, Z = wr := ⟨_, rfl⟩
                  obtain ⟨q, rfl, hq, hV⟩ := hrel
                  have HV := Lib.hid hV
                  clear hV
                  have q0 : (0 : Int) ≤ q := by omega
                  by_cases hql : q < F.length
                  · have hql' : (q : Int) < (F.length : Int) := by omega
                    obtain ⟨xn, hxn, hlk⟩ := names_at hql
                    obtain ⟨gR, e, hcR, _, hgR⟩ := text_at HROW.out hql
                    subst e
                    obtain ⟨gM, e, hcM, _, hgM⟩ := text_at HRN.out hql
                    subst e
                    obtain ⟨gV, e, hcV, _, hgV⟩ := text_at HRV.out hql
                    subst e
                    have hcR' : wv.cell? ⟨gR, q, none⟩ = some (.string ⟨xn.toArray⟩) := by rw [HV.out.cell (p := ⟨gR, q, none⟩) hgR, hcR, List.getElem?_map, hxn]; rfl
                    have hcM' : wv.cell? ⟨gM, q, none⟩ = some (.string ⟨xn.toArray⟩) := by rw [HV.out.cell (p := ⟨gM, q, none⟩) hgM, hcM, List.getElem?_map, hxn]; rfl
                    have hcV' : wv.cell? ⟨gV, q, none⟩ = some (.string ⟨(valF F xn).toArray⟩) := by rw [HV.out.cell (p := ⟨gV, q, none⟩) hgV, hcV, List.getElem?_map, List.getElem?_map, hxn]; rfl
                    have zR := Nat.lt_of_lt_of_le hgR HV.out.size
                    have zM := Nat.lt_of_lt_of_le hgM HV.out.size
                    have zV := Nat.lt_of_lt_of_le hgV HV.out.size
                    have RD := read_named B d ⟨F, F, []⟩ xn wv (HX7.out.below HV.out) hlk
                    clear hcR hcM hcV hxn hlk hgR hgM hgV
                    have HCR := Lib.hid hcR'
                    have HCM := Lib.hid hcM'
                    have HCV := Lib.hid hcV'
                    go_upto_region 46 with (fail)
                    go_wp2_with (fail)
                    refine Calls.mono RD ?_
                    rintro y w8 ⟨A8, c8, rfl, hr8, hB8⟩
                    have hcv : ∀ nn : Nat, (convert 35 9 (.slice A8 (valF F xn).length c8)).run Try.prog (w8.drewN nn) = .ok (.string ⟨(valF F xn).toArray⟩) (w8.drewN nn) := fun nn => RdY.conv (RdY.kept hr8 (KeptY.below (below_drewN (Below.refl _ _) nn)))
                    have hcR2 := bel_cell hB8 HCR.out
                    have hcM2 := bel_cell hB8 HCM.out
                    have hcV2 := bel_cell hB8 HCV.out
                    have zR2 := Nat.lt_of_lt_of_le zR hB8.size
                    have zM2 := Nat.lt_of_lt_of_le zM hB8.size
                    have zV2 := Nat.lt_of_lt_of_le zV hB8.size
                    have HV8 := Lib.hid (below_trans HV.out hB8)
                    try dsimp only at hcv
                    clear RD hr8 hB8 HCR HCM HCV hcR' hcM' hcV' zR zM zV HV
                    generalize valF F xn = bs at *
                    go_upto_region 47 with (fail)
                    go_quiet (fail)
                    have HV9 := Lib.hid (below_drewN HV8.out nq)
                    clear HV8 hcR2 hcM2 hcV2 zR2 zM2 zV2 hcv
                    go_wp2_with (fail)
                    go_roundw
                    case rel => exact ⟨q + 1, by go_num, by omega, HV9.out⟩
                    case measure => simp [intOf]; omega
                  · have hql' : ¬ (q : Int) < (F.length : Int) := by omega
                    have SW := sure_walk wv
                    have hBT := HB1.out.trans (BT.out.trans (HV.out.mono HBL.out))
                    have HBT := Lib.hid hBT
                    have HBV := Lib.hid (Nat.le_trans HBL.out HV.out.size)
                    clear hBT
                    go_wp2_with (fail)
                    refine Calls.mono SW ?_
                    rintro y w9 ⟨rfl, hB9⟩
                    have HF := Lib.hid (show Below B w w9 from HBT.out.trans (hB9.mono HBV.out))
                    clear SW hB9
                    go_wp2_with (fail)
                    go_ret
                    exact ⟨rfl, by rw [hB]; exact HF.out⟩
end Go.Proofs.Ytgocmfjijoibkaa
