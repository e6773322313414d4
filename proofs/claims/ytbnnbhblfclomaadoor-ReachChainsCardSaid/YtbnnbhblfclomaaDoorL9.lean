/- Reach, walked. -/
import Derived.Test.YtbnnbhblfclomaaDoorL7
namespace Go.Proofs.YtbnnbhblfclomaaDoor
open Go.RowKit
set_option linter.unusedSimpArgs false
set_option linter.unusedVariables false
theorem nats_news (w : World) (x : Nat) (t : TypeId) : ∀ j u, [Value.int .i64 (x : Int)][j]? = some u → (w.alloc (.cells #[.int .i64 (x : Int)] t)).cell? ((⟨w.heap.size, 0, none⟩ : Addr).add j) = some u :=
  World.news_of_block (cs := #[.int .i64 (x : Int)]) (t := t) (fr := (0, 0)) (heap_alloc_new w _)
/-- What Reach gives. -/
theorem filt_succ (seen : Nat → Bool) (k : Nat) : (List.range (k + 1)).filter seen = (List.range k).filter seen ++ if seen k = true then [k] else [] := by
  rw [List.range_succ, List.filter_append]
  congr 1
  by_cases h : seen k = true <;> simp [h]
theorem filt_len (seen : Nat → Bool) (k : Nat) : ((List.range k).filter seen).length ≤ k := by
  have := List.length_filter_le seen (List.range k)
  rwa [List.length_range] at this
end Go.Proofs.YtbnnbhblfclomaaDoor
