/- The parts of a text, walked. -/
import Derived.Test.YtacajmknlknjkaaDoorA3
namespace Go.Proofs.YtacajmknlknjkaaDoor
open Go.RowKit
set_option linter.unusedVariables false
theorem bat_below {T e : TypeId} {B b : Nat} {p : Value} {bs : List Value} {w w' : World} (h : Lib.BuilderAtF T e B b p bs w) (k : Below w.heap.size w w') : Lib.BuilderAtF T e B b p bs w' := by
  obtain ⟨hB, v, hb, hown, hne⟩ := h
  have lt : ∀ {g : Nat} {o : Obj}, w.heap[g]? = some o → g < w.heap.size := fun h => (Array.getElem?_eq_some_iff.1 h).1
  refine ⟨hB, v, (k.block b (lt hb)).trans hb, ⟨hown.1, hown.2.imp id ?_⟩, hne⟩
  rintro ⟨g, cap, cur, fz, hv, hg, hc, r⟩
  exact ⟨g, cap, cur, fz, hv, hg, (k.block g (lt hc)).trans hc, r⟩
theorem Bld.below {B b : Nat} {l : List UInt8} {w w' : World} (h : Bld w B b l) (k : Below w.heap.size w w') : Bld w' B b l := h.imp (bat_below · k) (bat_below · k)
theorem Bld.ge {B b : Nat} {l : List UInt8} {w : World} (h : Bld w B b l) : B ≤ b ∧ b < w.heap.size := by
  rcases h with h | h <;> exact ⟨h.1, h.lt⟩
/-- An error as a value, by its number. -/
def errE (e : Int) : Value := if e = 0 then .nilIface else .iface 56 (.int .i64 e)
theorem sz_len (s : ByteArray) : s.data.toList.length = s.size := by rw [ByteArray.size, Array.length_toList]
set_option maxRecDepth 100000 in
theorem parts_long (s : ByteArray) (w : World) (h : 65536 < s.size) (h2 : s.size ≤ 9223372036854775807) :
    Calls Tryd.prog 19 #[.string s] w fun y w' => y = .returned (.tuple #[.slice none 0 0, .iface 56 (.int .i64 2)]) ∧ w' = w := by
  have h1 : (65536 : Int) < (s.size : Int) := by omega
  go_enter Tryd.func19, Tryd.ntmps19
  go_wp2_with (fail)
  go_ret2
  exact ⟨rfl, rfl⟩
set_option maxRecDepth 100000 in
theorem parts_form (s : ByteArray) (w : World) (m : Int) (hm : w.cell? ⟨1, 0, none⟩ = some (.int .i64 m)) (h : s.size ≤ 65536) (ho : s.data.toList.count 36 % 2 = 1) :
    Calls Tryd.prog 19 #[.string s] w fun y w' => y = .returned (.tuple #[.slice none 0 0, .iface 56 (.int .i64 3)]) ∧ Below w.heap.size w w' := by
  have h1 : ¬ (65536 : Int) < (s.size : Int) := by omega
  have SP := Lib.hid (split_dollar s w m hm (by omega))
  have hc : Lib.countB s ⟨#[36]⟩ = s.data.toList.count 36 := Lib.count_one 36 s.data.toList
  rw [hc] at SP
  have hcl := List.count_le_length (a := (36 : UInt8)) (l := s.data.toList)
  rw [sz_len] at hcl
  generalize s.data.toList.count 36 = n at *
  clear hm hc
  go_enter Tryd.func19, Tryd.ntmps19
  go_wp2_with (fail)
  refine SP.out.mono ?_
  rintro y w2 ⟨rfl, rfl⟩
  have B1 := Lib.hid (below_al (Below.refl w.heap.size w) (.cells ((Lib.splitB ⟨#[36]⟩ 0 n s).map Value.string).toArray 9))
  obtain ⟨q, rfl⟩ : ∃ q, n = 2 * q + 1 := ⟨n / 2, by omega⟩
  have hd : ((2 * q + 1 + 1 : Nat) : Int) % 2 = 0 := by omega
  have hd2 : (2 * q + 1 + 1) % 2 = 0 := by omega
  generalize 2 * q + 1 + 1 = N at *
  clear SP
  go_wp2_with (fail)
  go_ret2
  exact ⟨rfl, B1.out⟩
set_option maxRecDepth 100000 in
theorem parts_ok (s : ByteArray) (w : World) (m : Int) (hm : w.cell? ⟨1, 0, none⟩ = some (.int .i64 m)) (h : s.size ≤ 65536) (ho : s.data.toList.count 36 % 2 = 0) :
    Calls Tryd.prog 19 #[.string s] w fun y w' => ∃ ps : List ByteArray, ps.map (·.data.toList) = pcs s.data.toList ∧ y = .returned (.tuple #[.slice (some ⟨w.heap.size, 0, none⟩) ps.length ps.length, .nilIface]) ∧ w' = w.alloc (.cells (ps.map Value.string).toArray 9) := by
  have h1 : ¬ (65536 : Int) < (s.size : Int) := by omega
  have SP := Lib.hid (split_dollar s w m hm (by omega))
  have hc : Lib.countB s ⟨#[36]⟩ = s.data.toList.count 36 := Lib.count_one 36 s.data.toList
  have hl := Lib.splitB_all ⟨#[36]⟩ (by decide) 0 _ s rfl
  have hp := Lib.splitB_data ⟨#[36]⟩ 0 (Lib.countB s ⟨#[36]⟩) s
  rw [hc] at SP hl hp
  rw [show (⟨#[36]⟩ : ByteArray).data.toList = [36] from rfl, splitK_pcs] at hp
  have hcl := List.count_le_length (a := (36 : UInt8)) (l := s.data.toList)
  rw [sz_len] at hcl
  have HP := Lib.hid hp
  generalize Lib.splitB ⟨#[36]⟩ 0 (s.data.toList.count 36) s = ps at *
  generalize s.data.toList.count 36 = n at *
  obtain ⟨q, rfl⟩ : ∃ q, n = 2 * q := ⟨n / 2, by omega⟩
  have hd : ((2 * q + 1 : Nat) : Int) % 2 = 1 := by omega
  have hd2 : (2 * q + 1) % 2 = 1 := by omega
  have HL := Lib.hid hl
  clear hm hc hp hl
  generalize 2 * q + 1 = N at *
  go_enter Tryd.func19, Tryd.ntmps19
  go_wp2_with (fail)
  refine SP.out.mono ?_
  rintro y w2 ⟨rfl, rfl⟩
  clear SP
  go_wp2_with (fail)
  go_ret2
  exact ⟨ps, HP.out, by rw [HL.out]; rfl, rfl⟩
end Go.Proofs.YtacajmknlknjkaaDoor
