/-
  TraceG: several texts in one (bundle.py).
-/
import Derived.Test.YtpfgepgjpnekdaaDoorNmH14
import Derived.Test.YtpfgepgjpnekdaaDoorNmH06
namespace Go.Proofs.YtpfgepgjpnekdaaDoor
open Go.RowKit Trc
set_option linter.unusedSimpArgs false
set_option linter.unusedVariables false

namespace Trc
def cnt (l : List Ev) (i : Int) : Nat := l.countP fun e => e.got == i
theorem cnt_snoc (l : List Ev) (e : Ev) (i : Int) : cnt (l ++ [e]) i = cnt l i + if e.got = i then 1 else 0 := by
  unfold cnt
  rw [List.countP_append]
  by_cases h : e.got = i <;> simp [h]
theorem cnt_le (l : List Ev) (i : Int) : cnt l i ≤ l.length := List.countP_le_length
end Trc
abbrev cntA (l : List Ev) : Array Value := #[.int .i64 (cnt l 0), .int .i64 (cnt l 1), .int .i64 (cnt l 2), .int .i64 (cnt l 3), .int .i64 (cnt l 4), .int .i64 (cnt l 5), .int .i64 (cnt l 6)]

theorem got7 {g : Int} (h : gotB g = true) : g = 0 ∨ g = 1 ∨ g = 2 ∨ g = 3 ∨ g = 4 ∨ g = 5 ∨ g = 6 := by simp [gotB] at h; omega
theorem cntA_get (l : List Ev) {g : Int} (h : gotB g = true) : (cntA l)[g.toNat]? = some (.int .i64 (cnt l g)) := by
  rcases got7 h with rfl | rfl | rfl | rfl | rfl | rfl | rfl <;> rfl
theorem cntA_set (l : List Ev) (x : Ev) (h : gotB x.got = true) : cntA (l ++ [x]) = (cntA l).setIfInBounds x.got.toNat (.int .i64 ((cnt l x.got : Nat) + 1 : Int)) := by
  simp only [cntA, cnt_snoc]
  rcases got7 h with h | h | h | h | h | h | h <;> simp [h]
theorem cntA_not (l : List Ev) (x : Ev) (h : gotB x.got = false) : cntA (l ++ [x]) = cntA l := by
  have : ∀ i : Int, 0 ≤ i → i ≤ 6 → ¬ x.got = i := fun i h1 h2 e => by simp [gotB] at h; omega
  simp only [cntA, cnt_snoc]
  simp [this]

end Go.Proofs.YtpfgepgjpnekdaaDoor
