/- The law GraphClosed. -/
import Derived.Test.YtdgclggmemciaaaDoorX5
namespace Go.Proofs.YtdgclggmemciaaaDoor
open Go.RowKit
set_option linter.unusedSimpArgs false
set_option linter.unusedVariables false
theorem step_append_ways {w : World} {ops : Array Oper} {o : Oper} {a : Act} {K : Act → World → Prop} {Q : Exit → Act → World → Prop} {F : Prop} (hgd : o.guard = none) (s x : Operand)
    (ho : o.op = .call { callee := .builtin .append, args := #[s, x], argTypes := #[22, 22] }) (B : Nat) (v : Value) (E0 E : Ways) (A : Option Addr) (cap : Nat)
    (hs : a.eval s = v) (hx : a.eval x = .slice A E.length cap) (hown : w.ownsRow B 40 2 v E0.length (cells2 E0)) (hP : Pairs w (.slice A E.length cap) (castE E)) (hb : E0.length + E.length ≤ 1048576) (hB : B ≤ w.heap.size)
    (hc : A = none → cap = 0)
    (h : ∀ v' w', w'.ownsRow B 40 2 v' (E0 ++ E).length (cells2 (E0 ++ E)) → w.grownBy w' v.ownBlock → (v'.ownBlock = v.ownBlock ∨ v'.ownBlock = some w.heap.size) → K (a.put o.dst v') w') :
    if Region.wanted o (yielded ops a.tmps) = true then Oper.wp Tryd.prog o a w K Q else F := by
  obtain ⟨i0, hi0, hz0, hz1, hz2⟩ := info_parts info23
  have hw : Region.wanted o (yielded ops a.tmps) = true := by simp [Region.wanted, hgd]
  rw [if_pos hw]
  have hcap : (E0 ++ E).length = E0.length + E.length := List.length_append
  cases A with
  | none =>
    obtain rfl := hc rfl
    have hE : E = [] := by
      obtain ⟨A', cap', e0, _, hp⟩ := hP
      simp only [Value.slice.injEq] at e0
      obtain ⟨rfl, _, rfl⟩ := e0
      rw [castE_len] at hp
      refine List.eq_nil_of_length_eq_zero (Classical.byContradiction fun c => ?_)
      obtain ⟨ad, e, _⟩ := hp (by omega)
      cases e
    subst hE
    have hrun := run_append_owned_none (P := Tryd.prog) (w := w) B 22 o.type 40 i0 2 Tryd.underlying22 hi0 v E0.length (cells2 E0) hown
    unfold Oper.wp
    simp [execOp, ho, resolve, invoke, builtin, hs, hx, hrun, Result.andThen]
    exact h v w (by simpa using hown) (World.grownBy.refl w _) (.inl rfl)
  | some ad =>
    have hnews : ∀ j u, (cells2 E)[j]? = some u → w.cell? (ad.add j) = some u := by
      obtain ⟨A', cap', e0, _, hp⟩ := hP
      simp only [Value.slice.injEq, Option.some.injEq] at e0
      obtain ⟨rfl, _, rfl⟩ := e0
      rw [castE_len] at hp
      intro j u hu
      have hj := (List.getElem?_eq_some_iff.1 hu).1
      rw [cells2_len] at hj
      obtain ⟨ad', e, _, hc'⟩ := hp (by omega)
      obtain rfl := Option.some.inj e
      obtain ⟨⟨y, z⟩, hab⟩ : ∃ e, E[j / 2]? = some e := ⟨_, List.getElem?_eq_getElem (by omega)⟩
      obtain ⟨c0, c1⟩ := hc' (j / 2) (by omega)
      obtain ⟨e0, e1⟩ := cells2_get E _ y z hab
      rw [castE_get hab] at c0 c1
      have hadd : (⟨(ad.add (j / 2 * 2)).block, (ad.add (j / 2 * 2)).off + 1, none⟩ : Addr) = ad.add (j / 2 * 2 + 1) := by
        by_cases hz : j / 2 * 2 = 0
        · rw [hz]; unfold Addr.add; simp
        · unfold Addr.add
          simp only [if_neg hz, if_neg (show ¬ (j / 2 * 2 + 1 = 0) by omega)]
          rfl
      rw [hadd] at c1
      by_cases hj2 : j = j / 2 * 2
      · rw [hj2] at hu ⊢
        rw [e0] at hu
        obtain rfl := Option.some.inj hu
        exact c0
      · have hj3 : j = j / 2 * 2 + 1 := by omega
        rw [hj3] at hu ⊢
        rw [e1] at hu
        obtain rfl := Option.some.inj hu
        exact c1
    have h1 : ∀ u ∈ cells2 E, u.oneCell' = true := by
      intro u hu
      unfold cells2 at hu
      obtain ⟨e, _, h2⟩ := List.mem_flatMap.1 hu
      simp at h2
      rcases h2 with rfl | rfl <;> rfl
    obtain ⟨v', w', hr, h2, h3, _, h5⟩ := run_append_own_at (P := Tryd.prog) w B 22 o.type 40 i0 (.agg #[.int .i64 0, .int .i64 0]) 2 16 Tryd.underlying22 hi0 hz0 hz1 hz2 rfl (by decide) v E0.length (cells2 E0) hown ad E.length cap (cells2 E) (cells2_len E) hnews h1 (by simp only [maxLen]; omega) (by omega) hB
    unfold Oper.wp execOp
    simp only [ho, resolve, invoke, builtin, Sem.run_bind, Sem.run_pure, Result.andThen_ok, List.map_toArray, List.map_cons, List.map_nil, hs, hx, hr]
    refine h v' w' ?_ h3 h5
    rw [hcap, show cells2 (E0 ++ E) = cells2 E0 ++ cells2 E by unfold cells2; simp]
    exact h2
theorem snoc_acyc {E : Ways} {n : Nat} {o : List Nat} (h : Gre E n o) (hl : o.length = n) (hE : ∀ e, e ∈ E → e.1 < n ∧ e.2 < n) {i j x y : Nat} (hij : i < j) (hx : o[i]? = some x) (hy : o[j]? = some y) : Acyc (E ++ [(x, y)]) := by
  have hidx : ∀ k z, o[k]? = some z → o.idxOf z = k := by
    intro k z hz
    obtain ⟨hk, rfl⟩ := List.getElem?_eq_some_iff.1 hz
    have h1 : o = o.take k ++ o[k] :: o.drop (k + 1) := by rw [← List.drop_eq_getElem_cons hk, List.take_append_drop]
    have h2 : (o.take k ++ o[k] :: o.drop (k + 1)).idxOf o[k] = k := by
      rw [List.idxOf_append, if_neg (h.new k hk), List.idxOf_cons_self, List.length_take]; omega
    rw [← h1] at h2; exact h2
  refine acyc_of_rank (fun z => o.idxOf z) (fun a b hab => ?_)
  rcases List.mem_append.1 hab with c | c
  · exact h.idx a b c (h.full hl (hE _ c).2)
  · simp only [List.mem_singleton, Prod.mk.injEq] at c
    obtain ⟨rfl, rfl⟩ := c
    show o.idxOf a < o.idxOf b
    rw [hidx i a hx, hidx j b hy]; exact hij
theorem snoc_self (E : Ways) (x : Nat) : ¬ Acyc (E ++ [(x, x)]) := fun h => h x ⟨x, by simp, .refl x⟩
theorem snoc_cyc {E : Ways} {x y : Nat} (h : Rch E x y) : Cyc (E ++ [(y, x)]) x := (h.mono (fun p hp => List.mem_append.2 (.inl hp))).plus (by simp)
theorem snoc_bound {E : Ways} {n x y : Nat} (hE : ∀ e, e ∈ E → e.1 < n ∧ e.2 < n) (hx : x < n) (hy : y < n) : ∀ e, e ∈ E ++ [(x, y)] → e.1 < n ∧ e.2 < n := by
  intro e he
  rcases List.mem_append.1 he with c | c
  · exact hE e c
  · rw [List.mem_singleton] at c
    subst c
    exact ⟨hx, hy⟩
end Go.Proofs.YtdgclggmemciaaaDoor
