/- Whether the files are the document's. -/
import Derived.Test.YtgocmfjijoibkaaDoorR8
namespace Go.Proofs.YtgocmfjijoibkaaDoor
open Go.RowKit
set_option linter.unusedSimpArgs false
set_option linter.unusedVariables false
set_option linter.unusedVariables false
theorem look_at {F : List Fl} (h : Asc F) {i : Nat} {f : Fl} (hi : F[i]? = some f) : lookF F f.1 = some f.2 := by
  induction F generalizing i with
  | nil => simp at hi
  | cons a r ih =>
    cases i with
    | zero => cases hi; rw [lookF, if_pos rfl]
    | succ i =>
      have h2 := List.pairwise_cons.1 h
      have hm : f ∈ r := List.mem_of_getElem? (by simpa using hi)
      rw [lookF, if_neg (fun e => by have := h2.1 f hm; rw [e] at this; exact lt_irr this)]
      exact ih h2.2 (by simpa using hi)
set_option maxHeartbeats 8000000 in
set_option maxRecDepth 100000 in
theorem same_walk (B d : Nat) (x : FS) (v : Value) (w : World) (h : DiskOk w B d x) (hv : RdF w v x.now) : Calls Tryd.prog 16 #[.pointer (some ⟨d, 0, none⟩), v] w (SureSaid w) := by
  obtain ⟨A, cap, rfl⟩ := hv.form
  have NM := names_walk B d x.now x.sure x.T w h.1
  have HX := Lib.hid h
  have HV := Lib.hid hv
  have hF64 := h.1.an.2
  have HAS := Lib.hid h.1.an.1
  clear h hv
  go_enter Tryd.func16, Tryd.ntmps16
  go_upto_region 1 with (fail)
  go_wp2_with (fail)
  refine Calls.mono NM ?_
  rintro y w3 ⟨vN, B0, rfl, hB0, hrow, _, hB3⟩
  have HX3 := Lib.hid (HX.out.below hB3)
  have HV3 := Lib.hid (HV.out.kept (KeptY.below hB3))
  obtain ⟨AN, cN, rfl⟩ := row_form hrow
  have HROW := Lib.hid hrow
  have HB3 := Lib.hid hB3
  clear NM hrow hB3 HX HV
  go_upto_region 4 with (fail)
  go_wp2_with (fail)
  go_loopw [6, 7, 8] (fun iv _ _ wy => ∃ q : Nat, iv = .int .i64 q ∧ q ≤ x.now.length ∧ Below w3.heap.size w3 wy) (fun iv _ _ _ => x.now.length - (intOf iv).toNat)
  case atStart => exact ⟨0, rfl, Nat.zero_le _, Below.refl _ _⟩
  case round =>
    obtain ⟨wv, rfl⟩ : ∃ Z, Z = wr := ⟨_, rfl⟩
    obtain ⟨q, rfl, hq, hW⟩ := hrel
    have HW := Lib.hid hW
    clear hW
    have q0 : (0 : Int) ≤ q := by omega
    by_cases hql : q < x.now.length
    · have hql' : (q : Int) < (x.now.length : Int) := by omega
      obtain ⟨f, hf, _, _⟩ := drop_at hql
      have hlk := look_at HAS.out hf
      have hxn : (namesF x.now)[q]? = some f.1 := by unfold namesF; rw [List.getElem?_map, hf]; rfl
      obtain ⟨gR, e, hcR, _, hgR⟩ := text_at HROW.out hql
      subst e
      obtain ⟨gF, e, c0, c1, zF⟩ := (HV3.out.kept (KeptY.below HW.out)).at_ hf
      subst e
      have hcR' : wv.cell? ⟨gR, q, none⟩ = some (.string ⟨f.1.toArray⟩) := by rw [HW.out.cell (p := ⟨gR, q, none⟩) hgR, hcR, List.getElem?_map, hxn]; rfl
      have zR := Nat.lt_of_lt_of_le hgR HW.out.size
      have RD := read_named B d x f.1 wv (HX3.out.below HW.out) (by rw [hlk]; rfl)
      have hval : valF x.now f.1 = f.2 := by unfold valF; rw [hlk]; rfl
      rw [show ReadV x.now f.1 wv = ReadV x.now f.1 wv from rfl] at RD
      have HVAL := Lib.hid hval
      clear hcR hxn hlk hgR hf hval
      have HCR := Lib.hid hcR'
      have HC1 := Lib.hid c1
      go_upto_region 7 with (fail)
      go_wp2_with (fail)
      refine Calls.mono RD ?_
      rintro y w8 ⟨A8, c8, rfl, hr8, hB8⟩
      rw [HVAL.out] at hr8 ⊢
      have hcv : ∀ nn : Nat, (convert 29 9 (.slice A8 f.2.length c8)).run Tryd.prog (w8.drewN nn) = .ok (.string ⟨f.2.toArray⟩) (w8.drewN nn) := fun nn => RdY.conv (RdY.kept hr8 (KeptY.below (below_drewN (Below.refl _ _) nn)))
      have hcR2 := bel_cell hB8 HCR.out
      have d0 := bel_cell hB8 c0
      have d1 := bel_cell hB8 HC1.out
      have zR2 := Nat.lt_of_lt_of_le zR hB8.size
      have zF2 := Nat.lt_of_lt_of_le zF hB8.size
      have HV8 := Lib.hid (below_trans HW.out hB8)
      clear RD hr8 hB8 HCR HC1 hcR' c0 c1 zR zF HW
      go_upto_region 8 with (fail)
      go_quiet (fail)
      have HV9 := Lib.hid (below_drewN HV8.out nq)
      clear HV8 hcR2 d0 d1 zR2 zF2 hcv
      go_wp2_with (fail)
      go_roundw
      case rel => exact ⟨q + 1, by go_num, by omega, HV9.out⟩
      case measure => simp [intOf]; omega
    · have hql' : ¬ (q : Int) < (x.now.length : Int) := by omega
      have HR := Lib.hid (below_trans HB3.out HW.out)
      go_wp2_with (fail)
      go_ret
      exact ⟨rfl, HR.out⟩
end Go.Proofs.YtgocmfjijoibkaaDoor
