/-
  The order of spans: cmp.Compare, cmp.Or, Sorted's comparison.
-/
import Derived.Test.YtnccbeiaohmnpaaStabI
import Derived.Test.YtnccbeiaohmnpaaClockA
namespace Go.Proofs.Ytnccbeiaohmnpaa
open Go.RowKit Srt
set_option linter.unusedSimpArgs false
set_option linter.unusedVariables false

abbrev spC (p : Int × Int) : List Value := [.int .u64 p.1, .int .u64 p.2]
abbrev spV (p : Int × Int) : Value := .agg (spC p).toArray
/-- Three ways. -/
def cmp3 (a b : Int) : Int := if a < b then -1 else if b < a then 1 else 0
def spCmp (p q : Int × Int) : Int := if cmp3 p.1 q.1 = 0 then cmp3 p.2 q.2 else cmp3 p.1 q.1
theorem spCmp_lt (p q : Int × Int) : ltc spCmp p q = decide (p.1 < q.1 ∨ p.1 = q.1 ∧ p.2 < q.2) := by
  unfold ltc spCmp cmp3
  refine decide_eq_decide.2 ?_
  repeat' split
  all_goals omega
theorem spTO : TO (ltc spCmp) := by
  refine ⟨fun x y h => ?_, fun x y z h1 h2 => ?_, fun x y h1 h2 => ?_⟩
  · rw [spCmp_lt] at h ⊢
    have := of_decide_eq_true h
    exact decide_eq_false (by omega)
  · rw [spCmp_lt] at h1 h2 ⊢
    have := of_decide_eq_false h1
    have := of_decide_eq_false h2
    exact decide_eq_false (by omega)
  · rw [spCmp_lt] at h1 h2
    have := of_decide_eq_false h1
    have := of_decide_eq_false h2
    exact Prod.ext (by omega) (by omega)
set_option maxRecDepth 100000 in
theorem isNaN_c (a : Int) (w : World) : Calls Try.prog 52 #[.int .u64 a] w fun en w' => en = .returned (.bool false) ∧ w = w' := by
  go_enter Try.func52, Try.ntmps52
  go_wp2
  go_ret
  exact ⟨rfl, rfl⟩
set_option maxRecDepth 100000 in
theorem cmpU_c (a b : Int) (w : World) : Calls Try.prog 42 #[.int .u64 a, .int .u64 b] w fun en w' => en = .returned (.int .i64 (cmp3 a b)) ∧ w = w' := by
  by_cases h1 : a < b
  · rw [show cmp3 a b = -1 from if_pos h1]
    have d1 : decide (a < b) = true := decide_eq_true h1
    go_enter Try.func42, Try.ntmps42
    go_wp2_with (go_at_call 52; refine (isNaN_c _ _).mono ?_; rintro en w1 ⟨rfl, rfl⟩)
    go_ret
    exact ⟨rfl, rfl⟩
  · have d1 : decide (a < b) = false := decide_eq_false h1
    by_cases h2 : b < a
    · rw [show cmp3 a b = 1 from (if_neg h1).trans (if_pos h2)]
      have d2 : decide (b < a) = true := decide_eq_true h2
      go_enter Try.func42, Try.ntmps42
      go_wp2_with (go_at_call 52; refine (isNaN_c _ _).mono ?_; rintro en w1 ⟨rfl, rfl⟩)
      go_ret
      exact ⟨rfl, rfl⟩
    · rw [show cmp3 a b = 0 from (if_neg h1).trans (if_neg h2)]
      have d2 : decide (b < a) = false := decide_eq_false h2
      go_enter Try.func42, Try.ntmps42
      go_wp2_with (go_at_call 52; refine (isNaN_c _ _).mono ?_; rintro en w1 ⟨rfl, rfl⟩)
      go_ret
      exact ⟨rfl, rfl⟩
set_option maxHeartbeats 1000000 in
set_option maxRecDepth 100000 in
theorem or2_c (x y : Int) {b : Nat} (w : World) (h : RowAt w b #[.int .i64 x, .int .i64 y] 3) : Calls Try.prog 41 #[.slice (some ⟨b, 0, none⟩) 2 2] w (Ret (.int .i64 (if x = 0 then y else x)) w) := by
  have c0 := h.cell (i := 0) (v := .int .i64 x) rfl
  have c1 := h.cell (i := 1) (v := .int .i64 y) rfl
  by_cases h1 : x = 0
  · subst h1
    rw [if_pos rfl]
    by_cases h2 : y = 0
    · subst h2
      go_enter Try.func41, Try.ntmps41
      go_wp2
      refine wp_loop_rounds 3 ?_
      rw [rounds_succ]
      go_wp2
      rw [rounds_succ]
      go_wp2
      rw [rounds_succ]
      go_wp2
      go_ret
      exact ⟨rfl, Below.refl _ _⟩
    · have d2 : (y == 0) = false := by simp [h2]
      go_enter Try.func41, Try.ntmps41
      go_wp2
      refine wp_loop_rounds 2 ?_
      rw [rounds_succ]
      go_wp2
      rw [rounds_succ]
      go_wp2
      go_ret
      exact ⟨rfl, Below.refl _ _⟩
  · rw [if_neg h1]
    have d1 : (x == 0) = false := by simp [h1]
    go_enter Try.func41, Try.ntmps41
    go_wp2
    refine wp_loop_rounds 1 ?_
    rw [rounds_succ]
    go_wp2
    go_ret
    exact ⟨rfl, Below.refl _ _⟩
end Go.Proofs.Ytnccbeiaohmnpaa
