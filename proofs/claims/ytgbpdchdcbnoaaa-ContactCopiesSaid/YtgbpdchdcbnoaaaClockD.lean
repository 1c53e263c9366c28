/-
  Contracts of clock's and the reference's sums, differences, products, and of what is over when.
-/
import Derived.Test.YtgbpdchdcbnoaaaClockC
namespace Go.Proofs.Ytgbpdchdcbnoaaa
open Go.RowKit

namespace Clk
theorem subF_hi {a : Int} (b : Int) (h : 4611686018427387903 ≤ a) : subF a b = 4611686018427387903 := by unfold subF; rw [if_pos h]
theorem subF_le {a b : Int} (h : a < 4611686018427387903) (k : a ≤ b) : subF a b = 0 := by unfold subF; rw [if_neg (by omega), if_pos k]; omega
theorem subF_gt {a b : Int} (h : a < 4611686018427387903) (k : b < a) : subF a b = a - b := by unfold subF; rw [if_neg (by omega), if_neg (by omega)]
end Clk

namespace Clk
theorem mulF_hi {a b : Int} (h : 0 < topF b) (k : 4611686018427387903 / topF b < topF a) : mulF a b = 4611686018427387903 := by unfold mulF; rw [if_pos ⟨h, k⟩]
theorem mulF_lo {a b : Int} (h : ¬ (0 < topF b ∧ 4611686018427387903 / topF b < topF a)) : mulF a b = topF a * topF b := by unfold mulF; rw [if_neg h]
theorem mul_b {x y : Int} (hx : 0 ≤ x) (hy : 0 ≤ y) (h : ¬ (0 < y ∧ 4611686018427387903 / y < x)) : 0 ≤ x * y ∧ x * y ≤ 4611686018427387903 := by
  refine ⟨Int.mul_nonneg hx hy, ?_⟩
  rcases Int.lt_or_le 0 y with hy0 | hy0
  · have h1 : x ≤ 4611686018427387903 / y := by omega
    have h2 := Int.mul_le_mul_of_nonneg_right h1 hy
    have h3 := Int.ediv_mul_le 4611686018427387903 (b := y) (by omega)
    omega
  · obtain rfl : y = 0 := by omega
    simp
theorem mulF_b (a b : Int) (ha : 0 ≤ a) (hb : 0 ≤ b) : 0 ≤ mulF a b ∧ mulF a b ≤ 4611686018427387903 := by
  unfold mulF
  have h1 := topF_b a ha
  have h2 := topF_b b hb
  split
  · decide
  · rename_i h; exact mul_b h1.1 h2.1 h
end Clk

namespace Clk
def carriesF (a b r : Int) : Int := if rightB a b then mulF (b - a) r else 0
theorem rightB_iff (a b : Int) : rightB a b = true ↔ a ≤ b ∧ b ≤ 4611686018427387903 := by simp [rightB]
theorem carriesF_b (a b r : Int) (hr : 0 ≤ r) : 0 ≤ carriesF a b r ∧ carriesF a b r ≤ 4611686018427387903 := by
  unfold carriesF
  split
  · rename_i h
    have := (rightB_iff a b).1 h
    exact mulF_b _ _ (by omega) hr
  · decide
end Clk

theorem inR_c (a b n : Int) (w : World) : Calls Try.prog 71 #[.agg #[.int .u64 a, .int .u64 b], .int .u64 n] w (Ret (.bool (Clk.inB a b n)) w) := by
  unfold Clk.inB
  generalize hx : Clk.rightB a b = x
  have Hx := Lib.hid hx; clear hx
  cases x
  all_goals
    go_enter Try.func71, Try.ntmps71
    go_wp2_with (go_at_call 26; refine (rightR_c _ _ _).mono ?_; rw [Hx.out]; rintro e w1 ⟨rfl, hb⟩; obtain ⟨hc, _⟩ := bcell hb)
    all_goals
      go_ret
      exact ⟨retB (by simp <;> omega), below_new hb⟩

namespace Clk
def roundF (n r : Int) : Int := n / r + (if 0 < n % r then 1 else 0)
def overF (from_ n r : Int) : Int := if n = 0 then topF from_ else if r = 0 then 4611686018427387903 else addF from_ (roundF n r)
theorem roundF_b {n r : Int} (h0 : 0 ≤ n) (h1 : n ≤ 18446744073709551615) (hr : 0 < r) : 0 ≤ roundF n r ∧ roundF n r ≤ 18446744073709551615 := by
  unfold roundF
  have h2 : 0 ≤ n / r := Int.ediv_nonneg h0 (by omega)
  have h3 : n / r * r ≤ n := Int.ediv_mul_le n (by omega)
  have h4 : n % r = n - n / r * r := by have := Int.emod_def n r; rw [Int.mul_comm] at this; omega
  have h5 : n / r ≤ n / r * r := by have := Int.mul_le_mul_of_nonneg_left (show (1 : Int) ≤ r by omega) h2; omega
  split <;> omega
end Clk

end Go.Proofs.Ytgbpdchdcbnoaaa
