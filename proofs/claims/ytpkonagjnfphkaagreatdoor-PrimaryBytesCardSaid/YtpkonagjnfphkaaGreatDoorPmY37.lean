/-
  CbDp, CbRc: several texts in one (bundle.py).
-/
import Derived.Test.YtpkonagjnfphkaaGreatDoorPmY14
import Derived.Test.YtpkonagjnfphkaaGreatDoorPmY33
set_option linter.unusedSimpArgs false
set_option linter.unusedVariables false
namespace Go.Proofs.YtpkonagjnfphkaaGreatDoor
open Go.RowKit Cb
end Go.Proofs.YtpkonagjnfphkaaGreatDoor
