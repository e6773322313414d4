/- Collect of the values of a slice of ints. -/
import Derived.Test.YtbnnbhblfclomaaDoorE2
namespace Go.Proofs.YtbnnbhblfclomaaDoor
open Go.RowKit
set_option linter.unusedVariables false
open Go.Shelf
attribute [local go_sem] Oper.semAt_some
set_option maxHeartbeats 1000000 in
theorem collect_in (F : Fence) (n : Nat) (h27 : F.fn 31) (h30 : F.fn 44) (h29 : F.fn 33) (hro : F.round = none) (hn : 4 ≤ n) (Bs : Nat) (sv : Value) (l : List Int) (hlen : l.length ≤ 65536) (w : World) (hBs : Bs < w.heap.size)
    (hc : w.cell? ⟨Bs, 0, none⟩ = some sv) (hI : RdI w sv w.heap.size l) :
    CallsIn F n Tryd.prog 31 #[.func (.func 33) #[] #[.pointer (some ⟨Bs, 0, none⟩)]] w fun e W' => ∃ v, e = .returned v ∧ W'.ownsRow w.heap.size 3 1 v l.length (l.map (Value.int .i64)) ∧ Below w.heap.size w W' := by
  have h1 : 1 ≤ n := by omega
  refine callsIn_of_wp Tryd.func31 rfl h27 ?_ hro
  simp only [Tryd.ntmps31, List.size_toArray, List.length_cons, List.length_nil, Nat.reduceAdd, Nat.reduceSub, Array.replicate_succ, Array.replicate_zero, List.push_toArray, List.append_toArray, List.nil_append, List.cons_append]
  gi_wp2_with (gi_at_call 44; refine (appendSeq_in F (n - 1) h30 h29 hro (by omega) Bs sv l hlen _ hBs hc hI).mono ?_; rintro e w' ⟨v, rfl, hrow, hb⟩)
  go_ret
  exact ⟨v, rfl, hrow, hb⟩
theorem collect_walk (Bs : Nat) (sv : Value) (l : List Int) (hlen : l.length ≤ 65536) (w : World) (hBs : Bs < w.heap.size)
    (hc : w.cell? ⟨Bs, 0, none⟩ = some sv) (hI : RdI w sv w.heap.size l) :
    Calls Tryd.prog 31 #[.func (.func 33) #[] #[.pointer (some ⟨Bs, 0, none⟩)]] w fun e W' => ∃ v, e = .returned v ∧ W'.ownsRow w.heap.size 3 1 v l.length (l.map (Value.int .i64)) ∧ Below w.heap.size w W' :=
  (callsIn_wide (n := 4)).1 (collect_in Fence.wide 4 trivial trivial trivial rfl (by omega) Bs sv l hlen w hBs hc hI)
theorem values_walk (a : Option Addr) (len cap : Nat) (w : World) :
    Calls Tryd.prog 19 #[.slice a len cap] w fun e w' => e = .returned (.func (.func 33) #[] #[.pointer (some ⟨w.heap.size, 0, none⟩)]) ∧ w' = w.alloc (.cells #[.slice a len cap] 26) := by
  go_enter Tryd.func19, Tryd.ntmps19
  go_wp2
  go_ret
  exact ⟨rfl, rfl⟩
end Go.Proofs.YtbnnbhblfclomaaDoor
