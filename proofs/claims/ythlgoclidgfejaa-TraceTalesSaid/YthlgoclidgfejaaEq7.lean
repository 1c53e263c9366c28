/-
  Arrays of seven ints are equal to themselves.
-/
import Derived.Test.YthlgoclidgfejaaTraceG
import Derived.ChangeKeysEq
namespace Go.Proofs.Ythlgoclidgfejaa
open Go.RowKit
set_option linter.unusedSimpArgs false

set_option maxRecDepth 100000 in
theorem eq7_same (w : World) (a b c d e f g : Int) : (Op.equalIn 10000 30 (.agg #[.int .i64 a, .int .i64 b, .int .i64 c, .int .i64 d, .int .i64 e, .int .i64 f, .int .i64 g]) (.agg #[.int .i64 a, .int .i64 b, .int .i64 c, .int .i64 d, .int .i64 e, .int .i64 f, .int .i64 g])).run Try.prog w = .ok true w := by
  have hi : Try.prog.info? 3 = some Try.t3 := by kernel_rfl
  have hc : Try.prog.cellsOf 3 = 1 := by kernel_rfl
  have he := Try.underlying3
  rw [show (10000 : Nat) = 9999 + 1 from rfl, run_equalIn_array w _ _ _ Try.underlying30 hi, hc]
  have hs : ∀ x : Int, (Op.equalIn 9999 3 (.int .i64 x) (.int .i64 x)).run Try.prog w = .ok true w := fun x => by
    rw [show (9999 : Nat) = 9998 + 1 from rfl, run_equalIn_int w 9998 3 .i64 .i64 _ _ he]; simp
  simp [Op.eqItems, List.range, List.range.loop, part, isAgg, run_underlying he, hs]
end Go.Proofs.Ythlgoclidgfejaa
