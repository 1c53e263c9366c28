/-
  TraceB, TraceC: several texts in one (bundle.py).
-/
import Derived.Test.YtpfgepgjpnekdaaDoorNmO02
import Derived.Test.YtpfgepgjpnekdaaDoorNmO05
namespace Go.Proofs.YtpfgepgjpnekdaaDoor
open Go.RowKit Trc
set_option linter.unusedSimpArgs false
set_option linter.unusedVariables false

theorem slK (w : World) (k : Nat) (hk : k = w.heap.size) (T : TypeId) : Sl (w.alloc (.cells #[.int .i64 3, .int .i64 15, .int .i64 16] T)) 1 (.slice (some ⟨k, 0, none⟩) 3 3) 3 ([3, 15, 16].map (.int .i64)) := by
  subst hk
  refine ⟨by simp, .inr ⟨w.heap.size, 0, 3, rfl, by decide, by decide, fun j u hj => ?_⟩⟩
  have : (w.alloc (.cells #[.int .i64 3, .int .i64 15, .int .i64 16] T)).heap[w.heap.size]? = some (.cells #[.int .i64 3, .int .i64 15, .int .i64 16] T) := heap_alloc_new w _
  simp only [World.cell?, this, Nat.zero_add]
  simpa using hj

end Go.Proofs.YtpfgepgjpnekdaaDoor

namespace Go.Proofs.YtpfgepgjpnekdaaDoor
open Go.RowKit Trc
set_option linter.unusedSimpArgs false
set_option linter.unusedVariables false

namespace Trc
/-- Not ahead of the last. -/
def risesB (l : List Ev) (e : Ev) : Bool := match l.getLast? with | none => true | some p => decide (p.at_ ≤ e.at_)
def sameB (e o : Ev) : Bool := saysB o && decide (o.name = e.name)
def onceB (l : List Ev) (e : Ev) : Bool := !saysB e || (e.name.node == 0 || !(l.any (sameB e)))
end Trc

end Go.Proofs.YtpfgepgjpnekdaaDoor
