/-
  The chapter's rows (works): true.
-/
import Derived.Test.YtnccbeiaohmnpaaClockF
namespace Go.Proofs.Ytnccbeiaohmnpaa
open Go.RowKit

theorem u64_lo {n : Int} (h : (Lit.int .u64 n).wf = true) : 0 ≤ n ∧ n ≤ 18446744073709551615 := by
  simp [Lit.wf, IntKind.min, IntKind.max, IntKind.signed, IntKind.bits] at h
  omega

set_option maxHeartbeats 1000000 in
theorem works_c (w : World) : Calls Try.prog 15 #[] w (Ret (.bool true) w) := by
  go_enter Try.func15, Try.ntmps15
  go_wp2_with fail
  refine (both_c 2 5 4 9 w).mono ?_
  rw [show Clk.bothF 2 5 4 9 = .agg #[.int .u64 4, .int .u64 5] from rfl, show Clk.bothB 2 5 4 9 = true from by decide]
  rintro e w1 ⟨rfl, hb1⟩
  go_wp2_with fail
  refine (both_c 2 4 4 9 _).mono ?_
  rw [show Clk.bothF 2 4 4 9 = .agg #[.int .u64 0, .int .u64 0] from rfl, show Clk.bothB 2 4 4 9 = false from by decide]
  rintro e w2 ⟨rfl, hb2⟩
  have hB : Below w.heap.size w w2 := below_up (below_up hb1 (below_alloc _ _)) hb2
  have x0 : w2.cell? ⟨w1.heap.size, 0, none⟩ = some (.int .u64 4) := cell_up hb2 (by simp [go_sem])
  have x1 : w2.cell? ⟨w1.heap.size, 1, none⟩ = some (.int .u64 5) := cell_up hb2 (by simp [go_sem])
  clear hb1 hb2
  go_wp2_with fail
  refine (add_c 4611686018427387903 1 _ (by decide) (by decide)).mono ?_
  rw [show Clk.addF 4611686018427387903 1 = 4611686018427387903 from by decide]
  rintro e w3 ⟨rfl, hb3⟩
  have hb3 := below_up (below_alloc w2 _) hb3
  have hB := below_up hB hb3
  have x0 := cell_up hb3 x0
  have x1 := cell_up hb3 x1
  go_wp2_with fail
  refine (sub_c 3 5 _ (by decide) (by decide) (by decide)).mono ?_
  rw [show Clk.subF 3 5 = 0 from by decide]
  rintro e w4 ⟨rfl, rfl⟩
  go_wp2_with fail
  refine (sub_c 4611686018427387903 5 _ (by decide) (by decide) (by decide)).mono ?_
  rw [show Clk.subF 4611686018427387903 5 = 4611686018427387903 from by decide]
  rintro e w4 ⟨rfl, rfl⟩
  go_wp2_with fail
  refine (mul_c 1099511627776 1099511627776 _ (by decide) (by decide)).mono ?_
  rw [show Clk.mulF 1099511627776 1099511627776 = 4611686018427387903 from by decide]
  rintro e w4 ⟨rfl, rfl⟩
  go_wp2_with fail
  refine (over_c 10 7 2 _ (by decide) (by decide) (by decide) (by decide)).mono ?_
  rw [show Clk.overF 10 7 2 = 14 from by decide]
  rintro e w5 ⟨rfl, hb5⟩
  go_wp2_with fail
  refine (over_c 10 7 0 _ (by decide) (by decide) (by decide) (by decide)).mono ?_
  rw [show Clk.overF 10 7 0 = 4611686018427387903 from by decide]
  rintro e w6 ⟨rfl, hb6⟩
  go_wp2_with fail
  refine (carries_c 2 5 4 _ (by decide) (by decide)).mono ?_
  rw [show Clk.carriesF 2 5 4 = 12 from by decide]
  rintro e w7 ⟨rfl, hb7⟩
  go_wp2
  go_ret
  exact ⟨rfl, below_up (below_up (below_up hB hb5) hb6) hb7⟩
end Go.Proofs.Ytnccbeiaohmnpaa
