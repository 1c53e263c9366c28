/-
  The walk of ClockSums: it returns true, whatever the two numbers; nothing that was there has turned.
-/
import Derived.Test.YtnccbeiaohmnpaaClockW
namespace Go.Proofs.Ytnccbeiaohmnpaa
open Go.RowKit
set_option linter.unusedVariables false

theorem num_c (n : Int) (w : World) : Calls Try.prog 24 #[.int .i64 n] w fun e w' => e = .returned (.int .i64 n) ∧ w = w' := by
  go_enter Try.func24, Try.ntmps24
  go_wp2
  go_ret
  exact ⟨rfl, rfl⟩

theorem slU2 (w : World) (k : Nat) (hk : k = w.heap.size) (a b : Int) (T : TypeId) : Sl (w.alloc (.cells #[.int .u64 a, .int .u64 b] T)) 1 (.slice (some ⟨k, 0, none⟩) 2 2) 2 ([a, b].map (.int .u64)) := by
  subst hk
  exact Sl.of_own (World.ownsRow_lit w #[.int .u64 a, .int .u64 b] 2 (size := 1) (e := T) (Nat.le_refl _) (by decide) rfl)

set_option maxHeartbeats 2000000 in
set_option maxRecDepth 100000 in
theorem clockSums_c (a b : Int) (w : World) (ha : 0 ≤ a) (hb : 0 ≤ b) (hb1 : b ≤ 18446744073709551615) :
    Calls Try.prog 5 #[.int .u64 a, .int .u64 b] w (Ret (.bool true) w) := by
  have hcases : (a ≤ 4611686018427387903 ∧ b ≤ 4611686018427387903) ∨ (a ≤ 4611686018427387903 ∧ 4611686018427387903 < b) ∨ (4611686018427387903 < a) := by omega
  have hall : ([a, b].all fun n => decide (n ≤ 4611686018427387903)) = (decide (a ≤ 4611686018427387903) && decide (b ≤ 4611686018427387903)) := by simp
  have Hall := Lib.hid hall; clear hall
  rcases hcases with ⟨h1, h2⟩ | ⟨h1, h2⟩ | h1
  all_goals
    go_enter Try.func5, Try.ntmps5
    go_wp2_with fail
    refine (check_c [a, b] _ 2 _ (slU2 _ _ (by simp) a b _) (by decide)).mono ?_
    rw [Hall.out]
    first | rw [decide_eq_true h1, decide_eq_true h2] | rw [decide_eq_true h1, decide_eq_false (by omega : ¬ b ≤ 4611686018427387903)] | rw [decide_eq_false (by omega : ¬ a ≤ 4611686018427387903), Bool.false_and]
    rintro e w1 ⟨rfl, hb1'⟩
    have hB := below_new hb1'
    clear hb1'
    go_wp2_with (first
      | (go_at_call 24; refine (num_c _ _).mono ?_; rintro e w2 ⟨rfl, rfl⟩)
      | (go_at_call 16; refine (add_c _ _ _ ha hb).mono ?_; rintro e w2 ⟨rfl, hb2⟩; have hB := below_up hB hb2; clear hb2)
      | (go_at_call 20; refine (addR_c _ _ _ ha hb).mono ?_; rintro e w2 ⟨rfl, rfl⟩)
      | (go_at_call 17; refine (sub_c _ _ _ ha hb hb1).mono ?_; rintro e w2 ⟨rfl, rfl⟩)
      | (go_at_call 21; refine (subR_c _ _ _ ha hb hb1).mono ?_; rintro e w2 ⟨rfl, rfl⟩)
      | (go_at_call 22; refine (mul_c _ _ _ ha hb).mono ?_; rintro e w2 ⟨rfl, rfl⟩)
      | (go_at_call 23; refine (mulR_c _ _ _ ha hb).mono ?_; rintro e w2 ⟨rfl, rfl⟩)
      | (go_at_call 19; refine (check_c [] _ 0 _ (Sl.nil _ _) (by decide)).mono ?_; rintro e w2 ⟨rfl, hb2⟩; have hB := below_up hB hb2; clear hb2)
      | (go_at_call 15; refine (works_c _).mono ?_; rintro e w2 ⟨rfl, hb2⟩; have hB := below_up hB hb2; clear hb2))
    go_ret
    exact ⟨rfl, hB⟩

theorem clockSums_row (a : Int) (wa : (Lit.int .u64 a).wf = true) (b : Int) (wb : (Lit.int .u64 b).wf = true) (w : World) :
    Calls Try.prog 5 #[.int .u64 a, .int .u64 b] w (Ret (.bool true) w) :=
  clockSums_c a b w (u64_lo wa).1 (u64_lo wb).1 (u64_lo wb).2
end Go.Proofs.Ytnccbeiaohmnpaa
