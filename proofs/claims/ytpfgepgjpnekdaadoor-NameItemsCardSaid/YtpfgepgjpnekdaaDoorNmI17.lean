/-
  TraceA, TraceB, TraceC: several texts in one (bundle.py).
-/
import Derived.Test.YtpfgepgjpnekdaaDoorNmI01
import Derived.Test.YtpfgepgjpnekdaaDoorNmI02
namespace Go.Proofs.YtpfgepgjpnekdaaDoor
open Go.RowKit
set_option linter.unusedSimpArgs false
set_option linter.unusedVariables false

namespace Trc
@[ext] structure Nm where
  node : Int
  service : Int
  time : Int
  seq : Int
deriving DecidableEq
structure Ev where
  kind : Int
  at_ : Int
  node : Int
  to : Int
  n : Int
  name : Nm
  got : Int
  gname : Nm
  why : Int
  errno : Int
deriving DecidableEq
def saysB (e : Ev) : Bool := e.kind == 3 || e.kind == 15 || e.kind == 16
def gotB (k : Int) : Bool := decide (0 ≤ k) && decide (k ≤ 6)
def aloneB (e : Ev) : Bool := gotB e.got && (decide (e.name = e.gname) && (if e.got = 5 then decide (1 ≤ e.why) && decide (e.why ≤ 5) else decide (e.why = 0)))
end Trc
open Trc
abbrev nmV (x : Nm) : Value := .agg #[.int .u32 x.node, .int .u32 x.service, .int .u64 x.time, .int .u32 x.seq]
abbrev evC (e : Ev) : List Value := [.int .i64 e.kind, .int .u64 e.at_, .int .u32 e.node, .int .u32 e.to, .int .u64 e.n, .int .u32 e.name.node, .int .u32 e.name.service, .int .u64 e.name.time, .int .u32 e.name.seq,
  .int .i64 e.got, .int .u32 e.gname.node, .int .u32 e.gname.service, .int .u64 e.gname.time, .int .u32 e.gname.seq, .int .i64 e.why, .int .i64 e.errno]
abbrev evA (e : Ev) : Array Value := (evC e).toArray
abbrev evV (e : Ev) : Value := .agg (evA e)

end Go.Proofs.YtpfgepgjpnekdaaDoor

namespace Go.Proofs.YtpfgepgjpnekdaaDoor
open Go.RowKit Trc
set_option linter.unusedSimpArgs false
set_option linter.unusedVariables false

theorem slK (w : World) (k : Nat) (hk : k = w.heap.size) (T : TypeId) : Sl (w.alloc (.cells #[.int .i64 3, .int .i64 15, .int .i64 16] T)) 1 (.slice (some ⟨k, 0, none⟩) 3 3) 3 ([3, 15, 16].map (.int .i64)) := by
  subst hk
  refine ⟨by simp, .inr ⟨w.heap.size, 0, 3, rfl, by decide, by decide, fun j u hj => ?_⟩⟩
  have : (w.alloc (.cells #[.int .i64 3, .int .i64 15, .int .i64 16] T)).heap[w.heap.size]? = some (.cells #[.int .i64 3, .int .i64 15, .int .i64 16] T) := heap_alloc_new w _
  simp only [World.cell?, this, Nat.zero_add]
  simpa using hj

end Go.Proofs.YtpfgepgjpnekdaaDoor

namespace Go.Proofs.YtpfgepgjpnekdaaDoor
open Go.RowKit Trc
set_option linter.unusedSimpArgs false
set_option linter.unusedVariables false

namespace Trc
/-- Not ahead of the last. -/
def risesB (l : List Ev) (e : Ev) : Bool := match l.getLast? with | none => true | some p => decide (p.at_ ≤ e.at_)
def sameB (e o : Ev) : Bool := saysB o && decide (o.name = e.name)
def onceB (l : List Ev) (e : Ev) : Bool := !saysB e || (e.name.node == 0 || !(l.any (sameB e)))
end Trc

end Go.Proofs.YtpfgepgjpnekdaaDoor
