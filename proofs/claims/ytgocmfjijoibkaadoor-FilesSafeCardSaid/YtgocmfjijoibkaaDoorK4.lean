/- A file read; a new disk. -/
import Derived.Test.YtgocmfjijoibkaaDoorK3
namespace Go.Proofs.YtgocmfjijoibkaaDoor
open Go.RowKit
set_option linter.unusedSimpArgs false
set_option linter.unusedVariables false
def ReadSaid (B d : Nat) (now sure : List Fl) (T : List Stp) (s : List UInt8) (w : World) (y : Ending) (w' : World) : Prop :=
  ∃ v, y = .returned (.tuple #[v, errI (checkN now s)]) ∧ RdY w' v (if checkN now s = 0 then (lookF now s).getD [] else []) ∧ Below w.heap.size w w'
theorem MapF.bs {w : World} {b : Nat} {F : List Fl} (h : MapF w b F) {x bs : List UInt8} (e : lookF F x = some bs) : ∃ v, RdY w v bs := by
  obtain ⟨D, _, _, _, hx⟩ := h
  obtain ⟨v, _, hv⟩ := (hx x).2 bs e
  exact ⟨v, hv⟩
set_option maxHeartbeats 2000000 in
set_option maxRecDepth 100000 in
theorem read_walk (B d : Nat) (now sure : List Fl) (T : List Stp) (name : ByteArray) (w : World) (h : DiskAt w B d now sure T) (hlim : ∀ bs, lookF now name.data.toList = some bs → bs.length ≤ 65536) :
    Calls Tryd.prog 18 #[.pointer (some ⟨d, 0, none⟩), .string name] w (ReadSaid B d now sure T name.data.toList w) := by
  have CK := check_walk B d now sure T name w h
  have hBw := h.lo.2
  have HH := Lib.hid h
  have HLIM := Lib.hid hlim
  clear h hlim
  go_enter Tryd.func18, Tryd.ntmps18
  go_upto_region 1 with (fail)
  go_wp2_with (fail)
  refine Calls.mono CK ?_
  rintro y w1 ⟨rfl, hB⟩
  have HB := Lib.hid hB
  have HD := Lib.hid (HH.out.below hB)
  clear CK hB
  by_cases hc : checkN now name.data.toList = 0
  · have HR := Lib.hid hc
    obtain ⟨hnm, hlk⟩ := checkN_zero hc
    have hsz : name.size ≤ 32 := named_len hnm
    obtain ⟨bs, hbs⟩ := Option.isSome_iff_exists.1 hlk
    obtain ⟨_, ⟨rn, rs, sv, hd, hmn, hms, hne, hBn, hBs, how⟩, hAn, _, _⟩ := HD.out
    have c0 : w1.cell? ⟨d, 0, none⟩ = some (.map (some rn)) := by rw [hd.cell]; rfl
    have zd := hd.lt
    obtain ⟨lv, _, hl1, hv1⟩ := hmn.look name (by unfold maxLen; omega)
    rw [hbs] at hv1
    have CW1 := clone19_walk lv bs w1 hv1 (by have := HLIM.out bs hbs; omega)
    have HBS := Lib.hid hbs
    rw [hc, errI_zero]
    clear hc hnm hlk hd hmn hms how hv1 hbs hAn
    go_wp2_with (fail)
    refine Calls.mono CW1 ?_
    rintro y w2 ⟨v2, rfl, hv2, hB2⟩
    have HV := Lib.hid hv2
    clear CW1 hv2
    go_wp2_with (fail)
    go_ret2
    refine ⟨v2, by rw [HR.out]; rfl, ?_, below_trans HB.out hB2⟩
    rw [HR.out, if_pos rfl, HBS.out]
    exact HV.out
  · have HC := Lib.hid hc
    have HN := Lib.hid (errI_ne hc)
    have HZ := Lib.hid (show ∀ v, RdY w1 v [] → RdY w1 v (if checkN now name.data.toList = 0 then (lookF now name.data.toList).getD [] else []) from fun v hv => by rw [if_neg hc]; exact hv)
    have hne : (errI (checkN now name.data.toList)) = .iface 63 (.int .i64 (checkN now name.data.toList)) := errI_ne hc
    rw [hne]
    clear hne
    generalize hcc : checkN now name.data.toList = c at *
    clear hc
    go_wp2_with (fail)
    go_ret2
    refine ⟨_, by rw [hcc, HN.out]; rfl, by rw [hcc]; exact HZ.out _ (RdY.nil _), HB.out⟩
set_option maxHeartbeats 2000000 in
set_option maxRecDepth 100000 in
theorem new_walk (w : World) : Calls Tryd.prog 7 #[] w fun y w' => ∃ d, y = .returned (.pointer (some ⟨d, 0, none⟩)) ∧ DiskAt w' w.heap.size d [] [] [] ∧ Below w.heap.size w w' := by
  have m0 := MapF.new w
  have B1 := below_al (Below.refl w.heap.size w) (.map #[] 0)
  have m1 := m0.kept (Below.heap_alloc (w.alloc (.map #[] 0)) (.map #[] 0) w.heap.size (by simp)) (KeptY.below (below_al (Below.refl _ _) (.map #[] 0)))
  have m2 := MapF.new (w.alloc (.map #[] 0))
  have B2 := below_al B1 (.map #[] 0)
  have B3 := below_al B2 (.cells #[.map (some w.heap.size), .map (some (w.heap.size + 1)), .slice none 0 0] 62)
  have hs1 : (w.alloc (.map #[] 0)).heap.size = w.heap.size + 1 := by simp
  rw [hs1] at m2
  have hs2 : ((w.alloc (.map #[] 0)).alloc (.map #[] 0)).heap.size = w.heap.size + 2 := by simp
  have hb := Blk.new ((w.alloc (.map #[] 0)).alloc (.map #[] 0)) 62 #[.map (some w.heap.size), .map (some (w.heap.size + 1)), .slice none 0 0]
  rw [hs2] at hb
  have k3 := KeptY.below (below_al (Below.refl ((w.alloc (.map #[] 0)).alloc (.map #[] 0)).heap.size ((w.alloc (.map #[] 0)).alloc (.map #[] 0))) (.cells #[.map (some w.heap.size), .map (some (w.heap.size + 1)), .slice none 0 0] 62))
  have m1' := m1.kept (Below.heap_alloc ((w.alloc (.map #[] 0)).alloc (.map #[] 0)) (.cells #[.map (some w.heap.size), .map (some (w.heap.size + 1)), .slice none 0 0] 62) w.heap.size (by simp; omega)) k3
  have m2' := m2.kept (Below.heap_alloc ((w.alloc (.map #[] 0)).alloc (.map #[] 0)) (.cells #[.map (some w.heap.size), .map (some (w.heap.size + 1)), .slice none 0 0] 62) (w.heap.size + 1) (by simp)) k3
  have HD := Lib.hid (show DiskAt (((w.alloc (.map #[] 0)).alloc (.map #[] 0)).alloc (.cells #[.map (some w.heap.size), .map (some (w.heap.size + 1)), .slice none 0 0] 62)) w.heap.size (w.heap.size + 2) [] [] [] from
    ⟨⟨by omega, by simp; omega⟩, ⟨_, _, _, hb, m1', m2', by omega, by omega, by omega, rfl, .inl ⟨rfl, rfl⟩⟩, ⟨List.Pairwise.nil, by simp⟩, ⟨List.Pairwise.nil, by simp⟩, by simp, fun s hs => by cases hs⟩)
  have HB := Lib.hid B3
  clear m0 B1 m1 m2 B2 B3 hb k3 m1' m2' hs1 hs2
  have hmm : ∀ (w : World), (Instr.makeMap 59 none).run Tryd.prog w = .ok (.map (some w.heap.size)) (w.alloc (.map #[] 0)) := fun w => rfl
  go_enter Tryd.func7, Tryd.ntmps7
  go_wp2_with (fail)
  go_ret
  exact ⟨_, rfl, by simpa using HD.out, by simpa using HB.out⟩
end Go.Proofs.YtgocmfjijoibkaaDoor
