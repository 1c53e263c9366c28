/-
  TraceE: several texts in one (bundle.py).
-/
import Derived.Test.YtpfgepgjpnekdaaDoorNmH13
namespace Go.Proofs.YtpfgepgjpnekdaaDoor
open Go.RowKit Trc
set_option linter.unusedSimpArgs false
set_option linter.unusedVariables false

end Go.Proofs.YtpfgepgjpnekdaaDoor
