/- The queue's map: lookup, store, delete. -/
import Derived.Test.YtfbbkeekpkbjhaaDoorM1
import Derived.Laws.StructEq
namespace Go.Proofs.YtfbbkeekpkbjhaaDoor
open Go.RowKit
set_option maxRecDepth 100000 in
theorem run_keyEq (a b a' b' : Int) (w : World) : (Op.equal 58 (keyV a b) (keyV a' b')).run Tryd.prog w = .ok (a == a' && b == b') w := by
  have hs := run_equalIn_agg (P := Tryd.prog) w 9999 58 #[.int .i64 a, .int .i64 b] #[.int .i64 a', .int .i64 b'] (by kernel_rfl) (by kernel_rfl)
  obtain ⟨f1, f2, hf, t1, t2, o1, o2, m1, m2⟩ : ∃ f1 f2 : Field, (Tryd.prog.fieldsOf 58).toList = [f1, f2] ∧ f1.type = 3 ∧ f2.type = 3 ∧ f1.offset = 0 ∧ f2.offset = 1 ∧ f1.name ≠ "_" ∧ f2.name ≠ "_" := ⟨_, _, rfl, rfl, rfl, rfl, rfl, by decide, by decide⟩
  have e1 : ∀ x y : Int, (Op.equalIn 9999 3 (.int .i64 x) (.int .i64 y)).run Tryd.prog w = .ok (x == y) w := fun x y => run_equalIn_int w 9998 3 .i64 .i64 _ _ Tryd.underlying3
  have p0 : ∀ x y : Int, (part 3 #[.int .i64 x, .int .i64 y] 0).run Tryd.prog w = .ok (.int .i64 x) w := fun x y => by kernel_rfl
  have p1 : ∀ x y : Int, (part 3 #[.int .i64 x, .int .i64 y] 1).run Tryd.prog w = .ok (.int .i64 y) w := fun x y => by kernel_rfl
  unfold Op.equal keyV
  rw [show Op.maxDepth = 9999 + 1 from rfl, hs, hf]
  simp only [Op.eqFields, t1, t2, o1, o2, if_pos m1, if_pos m2, Sem.run_bind, p0, Result.andThen_ok, e1]
  cases hx : a == a' <;> cases hy : b == b' <;> simp [p1, e1, hy]
theorem run_findKE (a b : Int) (w : World) : ∀ (L : List KE) (i : Nat), (Instr.findAsking 58 (keyV a b) (L.map entOf) i).run Tryd.prog w = .ok (findL a b L i) w
  | [], i => by simp [Instr.findAsking, findL]
  | e :: es, i => by
    simp only [List.map_cons, Instr.findAsking, Sem.run_bind]
    rw [show (entOf e).key = keyV e.a e.b from rfl, run_keyEq]
    simp only [Result.andThen_ok]
    rw [findL]
    by_cases h : a = e.a ∧ b = e.b
    · have hb : (a == e.a && b == e.b) = true := by simp [h.1, h.2]
      rw [hb, if_pos h]; simp; rfl
    · have hb : (a == e.a && b == e.b) = false := by simp; exact fun h1 h2 => h ⟨h1, h2⟩
      rw [hb, if_neg h]; simpa using run_findKE a b w es (i + 1)
theorem run_findK (a b : Int) (w : World) (L : List KE) : (Instr.findKey 58 (keyV a b) (L.map entOf)).run Tryd.prog w = .ok (findL a b L 0) w := by
  have hu : Tryd.prog.underlying 58 = _ := Tryd.underlying58
  unfold Instr.findKey
  simp only [Sem.run_bind, run_underlying hu, Result.andThen_ok]
  cases L with
  | nil => simp [Instr.findNow, findL]
  | cons e es =>
    have : ∀ fs, Instr.findNow (.struct fs) (keyV a b) (List.map entOf (e :: es)) 0 = none := fun fs => by simp [Instr.findNow, Instr.sameNow]
    simp only [this]
    exact run_findKE a b w (e :: es) 0
theorem run_checkK (em : Bool) (a b : Int) (w : World) : (Instr.checkKey em 10000 58 (keyV a b)).run Tryd.prog w = .ok () w := by kernel_rfl
/-- The map at block r holds what m says. -/
def MapRep (w : World) (r : Nat) (m : Int → Int → Option Nat) : Prop := ∃ L clock, w.heap[r]? = some (.map (L.map entOf).toArray clock) ∧ MapIs L m
theorem getMap {w : World} {r : Nat} {es : Array MapEntry} {clock : Nat} (hb : w.heap[r]? = some (.map es clock)) : (getObj r).run Tryd.prog w = .ok (.map es clock) w := by simp [getObj, Sem.run, hb]
theorem setMap {w : World} {r : Nat} {es : Array MapEntry} {clock : Nat} (o : Obj) (hb : w.heap[r]? = some (.map es clock)) : (setObj r o).run Tryd.prog w = .ok () { w with heap := w.heap.setIfInBounds r o } := by simp [setObj, Sem.run, hb]
theorem run_lookT {w : World} {r : Nat} {m : Int → Int → Option Nat} (h : MapRep w r m) (a b : Int) : (Instr.lookup 54 (.map (some r)) (keyV a b) true).run Tryd.prog w = .ok (.tuple #[.int .i64 ((m a b).getD 0 : Nat), .bool (m a b).isSome]) w := by
  obtain ⟨L, clock, hb, hm⟩ := h
  have hu : Tryd.prog.underlying 54 = _ := Tryd.underlying54
  have hz : (zeroValue 3).run Tryd.prog w = .ok (.int .i64 0) w := by kernel_rfl
  unfold Instr.lookup
  simp only [Sem.run_bind, run_underlying hu, Result.andThen_ok, getMap hb, run_checkK, run_findK, Sem.run_pure]
  cases hv : m a b with
  | none => rw [hm.find_none hv]; simp [hz]
  | some v => obtain ⟨k, e, h1, _⟩ := hm.find_some hv; rw [h1]; simp
theorem run_lookF {w : World} {r : Nat} {m : Int → Int → Option Nat} (h : MapRep w r m) (a b : Int) : (Instr.lookup 54 (.map (some r)) (keyV a b) false).run Tryd.prog w = .ok (.int .i64 ((m a b).getD 0 : Nat)) w := by
  obtain ⟨L, clock, hb, hm⟩ := h
  have hu : Tryd.prog.underlying 54 = _ := Tryd.underlying54
  have hz : (zeroValue 3).run Tryd.prog w = .ok (.int .i64 0) w := by kernel_rfl
  unfold Instr.lookup
  simp only [Sem.run_bind, run_underlying hu, Result.andThen_ok, getMap hb, run_checkK, run_findK, Sem.run_pure]
  cases hv : m a b with
  | none => rw [hm.find_none hv]; simp [hz]
  | some v => obtain ⟨k, e, h1, _⟩ := hm.find_some hv; rw [h1]; simp
/-- The world with another object at block r. -/
def setObjW (w : World) (r : Nat) (o : Obj) : World := { w with heap := w.heap.setIfInBounds r o }
set_option maxRecDepth 100000 in
theorem run_upd {w : World} {r : Nat} {m : Int → Int → Option Nat} (h : MapRep w r m) (a b : Int) (v : Nat) : ∃ o, (Instr.mapUpdate 54 (.map (some r)) (keyV a b) (.int .i64 v)).run Tryd.prog w = .ok () (setObjW w r o) ∧ MapRep (setObjW w r o) r (mupd m a b v) := by
  obtain ⟨L, clock, hb, hm⟩ := h
  have hu : Tryd.prog.underlying 54 = _ := Tryd.underlying54
  have hr : r < w.heap.size := (Array.getElem?_eq_some_iff.1 hb).1
  unfold Instr.mapUpdate
  simp only [Sem.run_bind, run_underlying hu, Result.andThen_ok, getMap hb, run_checkK, run_findK]
  cases hv : m a b with
  | none =>
    rw [hm.find_none hv]
    refine ⟨.map ((L ++ [(⟨a, b, v, clock⟩ : KE)]).map entOf).toArray (clock + 1), ?_, L ++ [(⟨a, b, v, clock⟩ : KE)], clock + 1, by simp [setObjW, hr], hm.push hv v clock⟩
    simp only [setMap _ hb, setObjW]
    congr 3
    simp [entOf]
  | some v0 =>
    obtain ⟨k, e, h1, h2, h3, h4⟩ := hm.find_some hv
    have hk : k < L.length := (List.getElem?_eq_some_iff.1 h2).1
    rw [h1]
    have hkey : (((L.map entOf).toArray[k]?).map (·.key)).getD (keyV a b) = keyV a b := by simp [h2, entOf, h3, h4]
    have hst : (Instr.keyThatStays (keyV a b) (keyV a b)).run Tryd.prog w = .ok (keyV a b) w := by
      unfold Instr.keyThatStays
      have : Instr.sameBits 10000 (keyV a b) (keyV a b) = true := by unfold keyV; rw [show (10000 : Nat) = 9999 + 1 from rfl, Instr.sameBits]; simp [Instr.sameBits]
      rw [if_pos this]; rfl
    refine ⟨.map ((L.set k { e with v := v }).map entOf).toArray clock, ?_, L.set k { e with v := v }, clock, by simp [setObjW, hr], hm.set h2 h3 h4 v⟩
    simp only [hkey, Sem.run_bind, hst, Result.andThen_ok, setMap _ hb, setObjW]
    congr 4
    apply Array.ext_getElem?
    intro j
    rw [Array.getElem?_modify]
    simp only [List.getElem?_toArray, List.getElem?_map, List.getElem?_set]
    by_cases hj : k = j
    · subst hj
      have hc : L[k].c = e.c := by rw [List.getElem?_eq_getElem hk] at h2; rw [Option.some.inj h2]
      simp [hk, entOf, h3, h4, hc]
    · simp [hj]
set_option maxRecDepth 100000 in
theorem run_del {w : World} {r : Nat} {m : Int → Int → Option Nat} (h : MapRep w r m) (a b : Int) : ∃ o, (∀ ty, (Builtin.delete_ #[54, 58] ty #[.map (some r), keyV a b]).run Tryd.prog w = .ok (.tuple #[]) (setObjW w r o)) ∧ MapRep (setObjW w r o) r (mdel m a b) := by
  obtain ⟨L, clock, hb, hm⟩ := h
  have hu : Tryd.prog.underlying 54 = _ := Tryd.underlying54
  have hr : r < w.heap.size := (Array.getElem?_eq_some_iff.1 hb).1
  unfold Builtin.delete_
  simp only [List.getElem?_toArray, List.getElem?_cons_zero, List.getElem?_cons_succ, Sem.run_bind, run_underlying hu, Result.andThen_ok, getMap hb, run_checkK, run_findK]
  cases hv : m a b with
  | none =>
    rw [hm.find_none hv]
    refine ⟨.map (L.map entOf).toArray clock, fun ty => ?_, L, clock, by simp [setObjW, hr], ?_⟩
    · simp only [Sem.run_bind, setMap _ hb, setObjW, Result.andThen_ok]
      rfl
    · have : mdel m a b = m := by
        funext x y; unfold mdel; split
        · rename_i hx; rw [hx.1, hx.2, hv]
        · rfl
      rw [this]; exact hm
  | some v0 =>
    obtain ⟨k, e, h1, h2, h3, h4⟩ := hm.find_some hv
    rw [h1]
    refine ⟨.map ((L.eraseIdx k).map entOf).toArray clock, fun ty => ?_, L.eraseIdx k, clock, by simp [setObjW, hr], hm.erase h2 h3 h4⟩
    have hk : k < L.length := (List.getElem?_eq_some_iff.1 h2).1
    have he : (L.map entOf).toArray.eraseIdxIfInBounds k = ((L.eraseIdx k).map entOf).toArray := by
      unfold Array.eraseIdxIfInBounds
      rw [dif_pos (by simpa using hk)]
      apply Array.ext_getElem?
      intro j
      simp [List.getElem?_eraseIdx]
      split <;> rfl
    simp only [Sem.run_bind, setMap _ hb, setObjW, Result.andThen_ok, Sem.run_pure, he]
end Go.Proofs.YtfbbkeekpkbjhaaDoor
