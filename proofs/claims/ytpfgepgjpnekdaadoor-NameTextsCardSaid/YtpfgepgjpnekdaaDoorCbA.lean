/-
  must, caught: giving up with an error.
-/
import Derived.Test.YtpfgepgjpnekdaaDoorRow
import Derived.Test.YtpfgepgjpnekdaaDoorBytes
import Derived.WalkLawsBesides
import Derived.Defers
import Derived.Recover
import Derived.Lib.Hide
namespace Go.Proofs.YtpfgepgjpnekdaaDoor
open Go.RowKit
set_option linter.unusedSimpArgs false
set_option linter.unusedVariables false

/-- What must gives up with. -/
abbrev gup (e : Int) : List PanicEntry := [{ v := .iface 26 (.int .i64 e), recovered := false }]
abbrev gupR (e : Int) : List PanicEntry := [{ v := .iface 26 (.int .i64 e), recovered := true }]
end Go.Proofs.YtpfgepgjpnekdaaDoor
