/-
  The contract of the reference's Right.
-/
import Derived.Test.YtgbpdchdcbnoaaaVolA
namespace Go.Proofs.Ytgbpdchdcbnoaaa
open Go.RowKit Go.Maps Vol
set_option linter.unusedSimpArgs false
set_option linter.unusedVariables false

def Vol.okB (c : Ct) : Bool := decide (0 < c.from_) && decide (0 < c.to) && decide (¬ c.from_ = c.to) && Clk.rightB c.a c.b && decide (c.a < c.b) && decide (1 ≤ c.r) && decide (c.r ≤ 4294967295)
theorem Vol.okB_ok {c : Ct} (h : okB c = true) (f2 : c.from_ ≤ 4294967295) (t2 : c.to ≤ 4294967295) (a0 : 0 ≤ c.a) : c.Ok := by
  unfold okB at h
  simp only [Bool.and_eq_true, decide_eq_true_eq] at h
  obtain ⟨⟨⟨⟨⟨⟨h1, h2⟩, h3⟩, h4⟩, h5⟩, h6⟩, h7⟩ := h
  have := (Clk.rightB_iff _ _).1 h4
  exact ⟨by omega, f2, by omega, t2, h3, a0, h5, this.2, h6, h7⟩

set_option maxHeartbeats 4000000 in
set_option maxRecDepth 100000 in
theorem ctRightR_c (c : Ct) (w : World) : Calls Try.prog 10 #[ctV c] w (Ret (.bool (okB c)) w) := by
  have hB := below_alloc w (.cells (ctC c).toArray 27)
  obtain ⟨b4, e4⟩ : ∃ b, Clk.rightB c.a c.b = b := ⟨_, rfl⟩
  cases b4
  · skip
    by_cases h1 : 0 < c.from_
    · skip
      by_cases h2 : 0 < c.to
      · skip
        by_cases h3 : ¬ c.from_ = c.to
        · skip
          go_enter Try.func10, Try.ntmps10
          go_wp2_with (go_at_call 26; refine (rightR_c _ _ _).mono ?_; rw [e4]; rintro en w1 ⟨rfl, hb⟩; have g := fun (j : Nat) (u : Value) (h : (w.alloc (.cells (ctC c).toArray 27)).cell? ⟨w.heap.size, j, none⟩ = some u) => cell_up hb h; have g2 := g 2 (.int .u64 c.a) (by simp [go_sem]); have g3 := g 3 (.int .u64 c.b) (by simp [go_sem]); have g4 := g 4 (.int .u64 c.r) (by simp [go_sem]); clear g)
          all_goals
            go_ret
            first | exact ⟨retB (by simp [okB, *] <;> (intros; omega)), below_up hB hb⟩ | exact ⟨retB (by simp [okB, *] <;> (intros; omega)), hB⟩
        · skip
          go_enter Try.func10, Try.ntmps10
          go_wp2_with (go_at_call 26; refine (rightR_c _ _ _).mono ?_; rw [e4]; rintro en w1 ⟨rfl, hb⟩; have g := fun (j : Nat) (u : Value) (h : (w.alloc (.cells (ctC c).toArray 27)).cell? ⟨w.heap.size, j, none⟩ = some u) => cell_up hb h; have g2 := g 2 (.int .u64 c.a) (by simp [go_sem]); have g3 := g 3 (.int .u64 c.b) (by simp [go_sem]); have g4 := g 4 (.int .u64 c.r) (by simp [go_sem]); clear g)
          all_goals
            go_ret
            first | exact ⟨retB (by simp [okB, *] <;> (intros; omega)), below_up hB hb⟩ | exact ⟨retB (by simp [okB, *] <;> (intros; omega)), hB⟩
      · skip
        go_enter Try.func10, Try.ntmps10
        go_wp2_with (go_at_call 26; refine (rightR_c _ _ _).mono ?_; rw [e4]; rintro en w1 ⟨rfl, hb⟩; have g := fun (j : Nat) (u : Value) (h : (w.alloc (.cells (ctC c).toArray 27)).cell? ⟨w.heap.size, j, none⟩ = some u) => cell_up hb h; have g2 := g 2 (.int .u64 c.a) (by simp [go_sem]); have g3 := g 3 (.int .u64 c.b) (by simp [go_sem]); have g4 := g 4 (.int .u64 c.r) (by simp [go_sem]); clear g)
        all_goals
          go_ret
          first | exact ⟨retB (by simp [okB, *] <;> (intros; omega)), below_up hB hb⟩ | exact ⟨retB (by simp [okB, *] <;> (intros; omega)), hB⟩
    · skip
      go_enter Try.func10, Try.ntmps10
      go_wp2_with (go_at_call 26; refine (rightR_c _ _ _).mono ?_; rw [e4]; rintro en w1 ⟨rfl, hb⟩; have g := fun (j : Nat) (u : Value) (h : (w.alloc (.cells (ctC c).toArray 27)).cell? ⟨w.heap.size, j, none⟩ = some u) => cell_up hb h; have g2 := g 2 (.int .u64 c.a) (by simp [go_sem]); have g3 := g 3 (.int .u64 c.b) (by simp [go_sem]); have g4 := g 4 (.int .u64 c.r) (by simp [go_sem]); clear g)
      all_goals
        go_ret
        first | exact ⟨retB (by simp [okB, *] <;> (intros; omega)), below_up hB hb⟩ | exact ⟨retB (by simp [okB, *] <;> (intros; omega)), hB⟩
  · skip
    by_cases h1 : 0 < c.from_
    · skip
      by_cases h2 : 0 < c.to
      · skip
        by_cases h3 : ¬ c.from_ = c.to
        · skip
          by_cases h5 : c.a < c.b
          · skip
            by_cases h6 : 1 ≤ c.r
            · skip
              by_cases h7 : c.r ≤ 4294967295
              · skip
                go_enter Try.func10, Try.ntmps10
                go_wp2_with (go_at_call 26; refine (rightR_c _ _ _).mono ?_; rw [e4]; rintro en w1 ⟨rfl, hb⟩; have g := fun (j : Nat) (u : Value) (h : (w.alloc (.cells (ctC c).toArray 27)).cell? ⟨w.heap.size, j, none⟩ = some u) => cell_up hb h; have g2 := g 2 (.int .u64 c.a) (by simp [go_sem]); have g3 := g 3 (.int .u64 c.b) (by simp [go_sem]); have g4 := g 4 (.int .u64 c.r) (by simp [go_sem]); clear g)
                all_goals
                  go_ret
                  first | exact ⟨retB (by simp [okB, *] <;> (intros; omega)), below_up hB hb⟩ | exact ⟨retB (by simp [okB, *] <;> (intros; omega)), hB⟩
              · skip
                go_enter Try.func10, Try.ntmps10
                go_wp2_with (go_at_call 26; refine (rightR_c _ _ _).mono ?_; rw [e4]; rintro en w1 ⟨rfl, hb⟩; have g := fun (j : Nat) (u : Value) (h : (w.alloc (.cells (ctC c).toArray 27)).cell? ⟨w.heap.size, j, none⟩ = some u) => cell_up hb h; have g2 := g 2 (.int .u64 c.a) (by simp [go_sem]); have g3 := g 3 (.int .u64 c.b) (by simp [go_sem]); have g4 := g 4 (.int .u64 c.r) (by simp [go_sem]); clear g)
                all_goals
                  go_ret
                  first | exact ⟨retB (by simp [okB, *] <;> (intros; omega)), below_up hB hb⟩ | exact ⟨retB (by simp [okB, *] <;> (intros; omega)), hB⟩
            · skip
              go_enter Try.func10, Try.ntmps10
              go_wp2_with (go_at_call 26; refine (rightR_c _ _ _).mono ?_; rw [e4]; rintro en w1 ⟨rfl, hb⟩; have g := fun (j : Nat) (u : Value) (h : (w.alloc (.cells (ctC c).toArray 27)).cell? ⟨w.heap.size, j, none⟩ = some u) => cell_up hb h; have g2 := g 2 (.int .u64 c.a) (by simp [go_sem]); have g3 := g 3 (.int .u64 c.b) (by simp [go_sem]); have g4 := g 4 (.int .u64 c.r) (by simp [go_sem]); clear g)
              all_goals
                go_ret
                first | exact ⟨retB (by simp [okB, *] <;> (intros; omega)), below_up hB hb⟩ | exact ⟨retB (by simp [okB, *] <;> (intros; omega)), hB⟩
          · skip
            go_enter Try.func10, Try.ntmps10
            go_wp2_with (go_at_call 26; refine (rightR_c _ _ _).mono ?_; rw [e4]; rintro en w1 ⟨rfl, hb⟩; have g := fun (j : Nat) (u : Value) (h : (w.alloc (.cells (ctC c).toArray 27)).cell? ⟨w.heap.size, j, none⟩ = some u) => cell_up hb h; have g2 := g 2 (.int .u64 c.a) (by simp [go_sem]); have g3 := g 3 (.int .u64 c.b) (by simp [go_sem]); have g4 := g 4 (.int .u64 c.r) (by simp [go_sem]); clear g)
            all_goals
              go_ret
              first | exact ⟨retB (by simp [okB, *] <;> (intros; omega)), below_up hB hb⟩ | exact ⟨retB (by simp [okB, *] <;> (intros; omega)), hB⟩
        · skip
          go_enter Try.func10, Try.ntmps10
          go_wp2_with (go_at_call 26; refine (rightR_c _ _ _).mono ?_; rw [e4]; rintro en w1 ⟨rfl, hb⟩; have g := fun (j : Nat) (u : Value) (h : (w.alloc (.cells (ctC c).toArray 27)).cell? ⟨w.heap.size, j, none⟩ = some u) => cell_up hb h; have g2 := g 2 (.int .u64 c.a) (by simp [go_sem]); have g3 := g 3 (.int .u64 c.b) (by simp [go_sem]); have g4 := g 4 (.int .u64 c.r) (by simp [go_sem]); clear g)
          all_goals
            go_ret
            first | exact ⟨retB (by simp [okB, *] <;> (intros; omega)), below_up hB hb⟩ | exact ⟨retB (by simp [okB, *] <;> (intros; omega)), hB⟩
      · skip
        go_enter Try.func10, Try.ntmps10
        go_wp2_with (go_at_call 26; refine (rightR_c _ _ _).mono ?_; rw [e4]; rintro en w1 ⟨rfl, hb⟩; have g := fun (j : Nat) (u : Value) (h : (w.alloc (.cells (ctC c).toArray 27)).cell? ⟨w.heap.size, j, none⟩ = some u) => cell_up hb h; have g2 := g 2 (.int .u64 c.a) (by simp [go_sem]); have g3 := g 3 (.int .u64 c.b) (by simp [go_sem]); have g4 := g 4 (.int .u64 c.r) (by simp [go_sem]); clear g)
        all_goals
          go_ret
          first | exact ⟨retB (by simp [okB, *] <;> (intros; omega)), below_up hB hb⟩ | exact ⟨retB (by simp [okB, *] <;> (intros; omega)), hB⟩
    · skip
      go_enter Try.func10, Try.ntmps10
      go_wp2_with (go_at_call 26; refine (rightR_c _ _ _).mono ?_; rw [e4]; rintro en w1 ⟨rfl, hb⟩; have g := fun (j : Nat) (u : Value) (h : (w.alloc (.cells (ctC c).toArray 27)).cell? ⟨w.heap.size, j, none⟩ = some u) => cell_up hb h; have g2 := g 2 (.int .u64 c.a) (by simp [go_sem]); have g3 := g 3 (.int .u64 c.b) (by simp [go_sem]); have g4 := g 4 (.int .u64 c.r) (by simp [go_sem]); clear g)
      all_goals
        go_ret
        first | exact ⟨retB (by simp [okB, *] <;> (intros; omega)), below_up hB hb⟩ | exact ⟨retB (by simp [okB, *] <;> (intros; omega)), hB⟩
end Go.Proofs.Ytgbpdchdcbnoaaa
