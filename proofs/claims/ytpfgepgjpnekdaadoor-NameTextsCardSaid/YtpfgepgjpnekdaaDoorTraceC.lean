/-
  Contracts: rises, once; all of the three.
-/
import Derived.Test.YtpfgepgjpnekdaaDoorTraceB
import Derived.Test.YtpfgepgjpnekdaaDoorPi
namespace Go.Proofs.YtpfgepgjpnekdaaDoor
open Go.RowKit Trc
set_option linter.unusedSimpArgs false
set_option linter.unusedVariables false

namespace Trc
/-- Not ahead of the last. -/
def risesB (l : List Ev) (e : Ev) : Bool := match l.getLast? with | none => true | some p => decide (p.at_ ≤ e.at_)
def sameB (e o : Ev) : Bool := saysB o && decide (o.name = e.name)
def onceB (l : List Ev) (e : Ev) : Bool := !saysB e || (e.name.node == 0 || !(l.any (sameB e)))
end Trc

end Go.Proofs.YtpfgepgjpnekdaaDoor
