/-
  The walk of ClockSpans: it returns true, whatever the spans, the time, the rate; nothing that was there has turned.
-/
import Derived.Test.YtnccbeiaohmnpaaClockW
namespace Go.Proofs.Ytnccbeiaohmnpaa
open Go.RowKit
set_option linter.unusedVariables false

theorem Clk.bothF_agg (a b c d : Int) : ∃ m n, Clk.bothF a b c d = .agg #[.int .u64 m, .int .u64 n] := by
  unfold Clk.bothF; split
  · exact ⟨_, _, rfl⟩
  · exact ⟨_, _, rfl⟩

set_option maxHeartbeats 2000000 in
set_option maxRecDepth 100000 in
theorem clockSpans_c (x0 x1 y0 y1 n0 n1 : Int) (w : World) (hx0 : 0 ≤ x0) (hn1 : 0 ≤ n1) :
    Calls Try.prog 3 #[.agg #[.int .u64 x0, .int .u64 x1], .agg #[.int .u64 y0, .int .u64 y1], .agg #[.int .u64 n0, .int .u64 n1]] w (Ret (.bool true) w) := by
  obtain ⟨m, n, hF⟩ := Clk.bothF_agg x0 x1 y0 y1
  have HF := Lib.hid hF; clear hF
  go_enter Try.func3, Try.ntmps3
  go_wp2_with fail
  refine (both_c x0 x1 y0 y1 _).mono ?_
  rw [HF.out]
  rintro e w1 ⟨rfl, hb1⟩
  have hB0 : Below w.heap.size w (((w.alloc (.cells #[.int .u64 x0, .int .u64 x1] 24)).alloc (.cells #[.int .u64 y0, .int .u64 y1] 24)).alloc (.cells #[.int .u64 n0, .int .u64 n1] 25)) := below_new (below_new (below_alloc _ _))
  have hB := below_up hB0 hb1
  have a0 : w1.cell? ⟨w.heap.size, 0, none⟩ = some (.int .u64 x0) := cell_up hb1 (by simp [go_sem])
  have a1 : w1.cell? ⟨w.heap.size, 1, none⟩ = some (.int .u64 x1) := cell_up hb1 (by simp [go_sem])
  have b0 : w1.cell? ⟨w.heap.size + 1, 0, none⟩ = some (.int .u64 y0) := cell_up hb1 (by simp [go_sem])
  have b1 : w1.cell? ⟨w.heap.size + 1, 1, none⟩ = some (.int .u64 y1) := cell_up hb1 (by simp [go_sem])
  have c0 : w1.cell? ⟨w.heap.size + 1 + 1, 0, none⟩ = some (.int .u64 n0) := cell_up hb1 (by simp [go_sem])
  have c1 : w1.cell? ⟨w.heap.size + 1 + 1, 1, none⟩ = some (.int .u64 n1) := cell_up hb1 (by simp [go_sem])
  clear hB0 hb1
  go_wp2_with fail
  refine (bothR_c x0 x1 y0 y1 _).mono ?_
  rw [HF.out]
  rintro e w2 ⟨rfl, hb2⟩
  have z0 : w2.cell? ⟨w1.heap.size, 0, none⟩ = some (.int .u64 m) := cell_up hb2 (by simp [go_sem])
  have z1 : w2.cell? ⟨w1.heap.size, 1, none⟩ = some (.int .u64 n) := cell_up hb2 (by simp [go_sem])
  have hb2 := below_up (below_alloc w1 _) hb2
  have a0 := cell_up hb2 a0
  have a1 := cell_up hb2 a1
  have b0 := cell_up hb2 b0
  have b1 := cell_up hb2 b1
  have c0 := cell_up hb2 c0
  have c1 := cell_up hb2 c1
  have hB := below_up hB hb2
  clear hb2
  go_wp2
  obtain ⟨W, hW⟩ : ∃ W, W = w2.alloc (.cells #[.int .u64 m, .int .u64 n] 24) := ⟨_, rfl⟩
  have hb3 : Below w2.heap.size w2 W := by rw [hW]; exact below_alloc _ _
  have v0 : ∀ t : Abv W, t.val.cell? ⟨w2.heap.size, 0, none⟩ = some (.int .u64 m) := fun t => t.cell _ _ (by rw [hW]; simp [go_sem])
  have v1 : ∀ t : Abv W, t.val.cell? ⟨w2.heap.size, 1, none⟩ = some (.int .u64 n) := fun t => t.cell _ _ (by rw [hW]; simp [go_sem])
  have z0 : ∀ t : Abv W, t.val.cell? ⟨w1.heap.size, 0, none⟩ = some (.int .u64 m) := fun t => t.cell _ _ (cell_up hb3 z0)
  have z1 : ∀ t : Abv W, t.val.cell? ⟨w1.heap.size, 1, none⟩ = some (.int .u64 n) := fun t => t.cell _ _ (cell_up hb3 z1)
  have a0 : ∀ t : Abv W, t.val.cell? ⟨w.heap.size, 0, none⟩ = some (.int .u64 x0) := fun t => t.cell _ _ (cell_up hb3 a0)
  have a1 : ∀ t : Abv W, t.val.cell? ⟨w.heap.size, 1, none⟩ = some (.int .u64 x1) := fun t => t.cell _ _ (cell_up hb3 a1)
  have c0 : ∀ t : Abv W, t.val.cell? ⟨w.heap.size + 1 + 1, 0, none⟩ = some (.int .u64 n0) := fun t => t.cell _ _ (cell_up hb3 c0)
  have c1 : ∀ t : Abv W, t.val.cell? ⟨w.heap.size + 1 + 1, 1, none⟩ = some (.int .u64 n1) := fun t => t.cell _ _ (cell_up hb3 c1)
  have hB := below_up hB hb3
  rw [← hW]
  clear hW hb3 b0 b1
  refine wp_region_abv (by kernel_rfl) (by kernel_rfl) ?_
  repeat (go_big_quiet_step ((first
    | (go_at_call 9; exact Abv.call (right_c _ _ _))
    | (go_at_call 10; exact Abv.call (rightR_c _ _ _))
    | (go_at_call 11; exact Abv.call (inM_c _ _ _ _))
    | (go_at_call 12; exact Abv.call (inR_c _ _ _ _))
    | (go_at_call 13; exact Abv.call (carries_c _ _ _ _ hx0 hn1))
    | (go_at_call 14; exact Abv.call (carriesR_c _ _ _ _ hx0 hn1))
    | (go_at_call 15; exact Abv.call (works_c _)))))
  refine wpQuiet_nil ?_
  rintro _ ⟨t, rfl⟩
  go_wp2
  go_ret
  exact ⟨rfl, below_up hB t.prop⟩

theorem u64_lo {n : Int} (h : (Lit.int .u64 n).wf = true) : 0 ≤ n ∧ n ≤ 18446744073709551615 := by
  simp [Lit.wf, IntKind.min, IntKind.max, IntKind.signed, IntKind.bits] at h
  omega
theorem clockSpans_row (x0 : Int) (wx0 : (Lit.int .u64 x0).wf = true) (x1 : Int) (wx1 : (Lit.int .u64 x1).wf = true) (y0 : Int) (wy0 : (Lit.int .u64 y0).wf = true) (y1 : Int) (wy1 : (Lit.int .u64 y1).wf = true) (n0 : Int) (wn0 : (Lit.int .u64 n0).wf = true) (n1 : Int) (wn1 : (Lit.int .u64 n1).wf = true) (w : World) :
    Calls Try.prog 3 #[.agg #[.int .u64 x0, .int .u64 x1], .agg #[.int .u64 y0, .int .u64 y1], .agg #[.int .u64 n0, .int .u64 n1]] w (Ret (.bool true) w) :=
  clockSpans_c x0 x1 y0 y1 n0 n1 w (u64_lo wx0).1 (u64_lo wn1).1
end Go.Proofs.Ytnccbeiaohmnpaa
