/- A disk, and laws of a drawn region. -/
import Derived.Test.YtgocmfjijoibkaaDoorD1
import Derived.Deep.QuietTactic
import Derived.BigQuiet
import Derived.StillTailTactics
import Derived.Deep.RegionHeld3
import Derived.Deep.AppendLies
namespace Go.Proofs.YtgocmfjijoibkaaDoor
open Go.RowKit
set_option linter.unusedSimpArgs false
set_option linter.unusedVariables false
section
variable {P : Program} {ops : Array Oper} {Q : Exit → Act → World → Prop} {md : Region.Mode} {S : World → Prop}
theorem op_at {i : Nat} {oi : Oper} (h : ops.toList[i]? = some oi) : ops[i]? = some oi := by rw [← Array.getElem?_toList]; exact h
/-- The i-th operation comes up, runs, and yields v in every world that meets S. -/
theorem reg_take {i : Nat} {oi : Oper} {v : Value} {fuel : Nat} {listed : Array Bool} {a : Act} {w : World} (hi : ops.toList[i]? = some oi)
    (hs : Region.noSelect ops = true) (hf : Region.free md ops listed i = true) (hr : (Region.ready md ops listed).contains i = true)
    (hQ : ∀ c a w, Q (.panic c) (a.put oi.dst v) w → Q (.panic c) a w) (hw : Region.wanted oi (yielded ops a.tmps) = true) (hy : ∀ w, S w → (execOp a.eval oi).run P w = .ok (.value v) w) (hS : S w)
    (h : wpAnyH P md ops Q S fuel (listed.setIfInBounds i true) (a.put oi.dst v) w) : wpAnyH P md ops Q S (fuel + 1) listed a w :=
  wpAnyH_take (op_at hi) hs hf hr hQ (Or.inl ⟨hw, hy⟩) hS h
/-- The i-th operation comes up, and is left out. -/
theorem reg_skip {i : Nat} {oi : Oper} {fuel : Nat} {listed : Array Bool} {a : Act} {w : World} (hi : ops.toList[i]? = some oi)
    (hs : Region.noSelect ops = true) (hf : Region.free md ops listed i = true) (hr : (Region.ready md ops listed).contains i = true)
    (hQ : ∀ c a w, Q (.panic c) (a.put oi.dst undef) w → Q (.panic c) a w) (hw : Region.wanted oi (yielded ops a.tmps) = false) (hS : S w)
    (h : wpAnyH P md ops Q S fuel (listed.setIfInBounds i true) (a.put oi.dst undef) w) : wpAnyH P md ops Q S (fuel + 1) listed a w :=
  wpAnyH_take (op_at hi) hs hf hr hQ (Or.inr ⟨hw, rfl⟩) hS h
theorem reg_each {fuel : Nat} {listed : Array Bool} {a : Act} {w : World} {i : Nat} {o : Oper} {rs : List Nat} (ho : ops.toList[i]? = some o)
    (h : ∀ K' : Act → World → Prop, Shut (∀ a w, S w → (S w → wpAnyH P md ops Q S fuel (listed.setIfInBounds i true) a w) → K' a w) → if Region.wanted o (yielded ops a.tmps) = true then Oper.wp P o a w K' Q else K' (a.put o.dst undef) w)
    (hs : AllReadyH P md ops Q S fuel listed a w rs) : AllReadyH P md ops Q S fuel listed a w (i :: rs) := AllReadyH.cons (op_at ho) h hs
end
theorem info57 : (Tryd.prog.info? 68).map (fun i => (i.zero, i.size, i.bytes)) = some (some (.agg #[.string ByteArray.empty, .string ByteArray.empty, .slice none 0 0, .bool false, .bool false]), 5, 64) := by kernel_rfl
def stL (s : Stp) : List Value := [.string s.name, .string s.dst, s.v, .bool s.wr, .bool s.rm]
def cellsT (T : List Stp) : List Value := T.flatMap stL
theorem cellsT_snoc (T : List Stp) (s : Stp) : cellsT (T ++ [s]) = cellsT T ++ stL s := by simp [cellsT]
theorem cellsT_len : ∀ T : List Stp, (cellsT T).length = T.length * 5
  | [] => rfl
  | s :: r => by
    have := cellsT_len r
    show (stL s ++ cellsT r).length = _
    rw [List.length_append, this]; simp [stL]; omega
/-- Whether a value is a slice. -/
def isSl : Value → Prop
  | .slice _ _ _ => True
  | _ => False
theorem RdY.sl {w : World} {v : Value} {bs : List UInt8} (h : RdY w v bs) : isSl v := by
  obtain ⟨A, cap, rfl⟩ := h.form; trivial
/-- A disk in block d: the files that are, those that are sure, the steps between. -/
structure DiskAt (w : World) (B d : Nat) (now sure : List Fl) (T : List Stp) : Prop where
  lo : B ≤ d ∧ B ≤ w.heap.size
  rep : ∃ rn rs sv, Blk w d 62 #[.map (some rn), .map (some rs), sv] ∧ MapF w rn now ∧ MapF w rs sure ∧ rn ≠ rs ∧ B ≤ rn ∧ B ≤ rs ∧ w.ownsRow B 68 5 sv T.length (cellsT T)
  an : Asc now ∧ now.length ≤ 64
  as_ : Asc sure ∧ sure.length ≤ 64
  st : T.length ≤ 4096 ∧ ∀ s, s ∈ T → RdY w s.v s.bs ∧ s.name.size ≤ 32 ∧ s.dst.size ≤ 32 ∧ s.bs.length ≤ 65536
theorem step_append_s {w : World} {ops : Array Oper} {o : Oper} {a : Act} {K : Act → World → Prop} {Q : Exit → Act → World → Prop} {F : Prop} (hgd : o.guard = none) (s x : Operand)
    (ho : o.op = .call { callee := .builtin .append, args := #[s, x], argTypes := #[60, 60] }) (B : Nat) (v : Value) (E0 : List Stp) (e : Stp) (he : isSl e.v) (ad : Addr) (cap : Nat)
    (hs : a.eval s = v) (hx : a.eval x = .slice (some ad) 1 cap) (hown : w.ownsRow B 68 5 v E0.length (cellsT E0)) (hnews : ∀ j u, (stL e)[j]? = some u → w.cell? (ad.add j) = some u) (hb : E0.length + 1 ≤ 1048576) (hB : B ≤ w.heap.size)
    (h : ∀ v' w', w'.ownsRow B 68 5 v' (E0 ++ [e]).length (cellsT (E0 ++ [e])) → w.grownBy w' v.ownBlock → (v'.ownBlock = v.ownBlock ∨ v'.ownBlock = some w.heap.size) → K (a.put o.dst v') w') :
    if Region.wanted o (yielded ops a.tmps) = true then Oper.wp Tryd.prog o a w K Q else F := by
  obtain ⟨i0, hi0, hz0, hz1, hz2⟩ := info_parts info57
  have hw : Region.wanted o (yielded ops a.tmps) = true := by simp [Region.wanted, hgd]
  rw [if_pos hw]
  have h1 : ∀ u ∈ stL e, u.oneCell' = true := by
    obtain ⟨nm, ds, v, bs, wr, rm⟩ := e
    cases v <;> first | (simp [stL, Value.oneCell']; done) | exact absurd he id
  obtain ⟨v', w', hr, h2, h3, _, h5⟩ := run_append_own_at (P := Tryd.prog) w B 60 o.type 68 i0 (.agg #[.string ByteArray.empty, .string ByteArray.empty, .slice none 0 0, .bool false, .bool false]) 5 64 Tryd.underlying60 hi0 hz0 hz1 hz2 rfl (by decide) v E0.length (cellsT E0) hown ad 1 cap (stL e) rfl hnews h1 (by simp only [maxLen]; omega) (by omega) hB
  unfold Oper.wp execOp
  simp only [ho, resolve, invoke, builtin, Sem.run_bind, Sem.run_pure, Result.andThen_ok, List.map_toArray, List.map_cons, List.map_nil, hs, hx, hr]
  refine h v' w' ?_ h3 h5
  rw [cellsT_snoc, show (E0 ++ [e]).length = E0.length + 1 by simp]; exact h2
end Go.Proofs.YtgocmfjijoibkaaDoor
