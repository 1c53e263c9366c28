/-
  The contract of Check.
-/
import Derived.Test.YtpfgepgjpnekdaaDoorTraceD
namespace Go.Proofs.YtpfgepgjpnekdaaDoor
open Go.RowKit Trc
set_option linter.unusedSimpArgs false
set_option linter.unusedVariables false

end Go.Proofs.YtpfgepgjpnekdaaDoor
