/-
  Contracts of clock's Check, Add, Sub, Mul, Over, Carries and of the reference's.
-/
import Derived.Test.YtgbpdchdcbnoaaaClockB
namespace Go.Proofs.Ytgbpdchdcbnoaaa
open Go.RowKit

end Go.Proofs.Ytgbpdchdcbnoaaa
