/-
  Contracts: slices.Contains and ContainsFunc at trace's types; says, rises, once.
-/
import Derived.Test.YtpfgepgjpnekdaaDoorTraceA
import Derived.Test.YtpfgepgjpnekdaaDoorRec
namespace Go.Proofs.YtpfgepgjpnekdaaDoor
open Go.RowKit Trc
set_option linter.unusedSimpArgs false
set_option linter.unusedVariables false

theorem slK (w : World) (k : Nat) (hk : k = w.heap.size) (T : TypeId) : Sl (w.alloc (.cells #[.int .i64 3, .int .i64 15, .int .i64 16] T)) 1 (.slice (some ⟨k, 0, none⟩) 3 3) 3 ([3, 15, 16].map (.int .i64)) := by
  subst hk
  refine ⟨by simp, .inr ⟨w.heap.size, 0, 3, rfl, by decide, by decide, fun j u hj => ?_⟩⟩
  have : (w.alloc (.cells #[.int .i64 3, .int .i64 15, .int .i64 16] T)).heap[w.heap.size]? = some (.cells #[.int .i64 3, .int .i64 15, .int .i64 16] T) := heap_alloc_new w _
  simp only [World.cell?, this, Nat.zero_add]
  simpa using hj

end Go.Proofs.YtpfgepgjpnekdaaDoor
