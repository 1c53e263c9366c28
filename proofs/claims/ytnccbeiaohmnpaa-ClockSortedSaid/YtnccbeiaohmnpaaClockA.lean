/-
  Contracts of the small functions of package clock and of its reference: what each returns, in whatever memory; nothing that was there has turned.
-/
import Derived.Test.YtnccbeiaohmnpaaSlice
namespace Go.Proofs.Ytnccbeiaohmnpaa
open Go.RowKit

namespace Clk
def topF (n : Int) : Int := if n ≤ 4611686018427387903 then n else 4611686018427387903
theorem topF_lo {n : Int} (h : n ≤ 4611686018427387903) : topF n = n := by unfold topF; rw [if_pos h]
theorem topF_hi {n : Int} (h : 4611686018427387903 ≤ n) : topF n = 4611686018427387903 := by unfold topF; split <;> omega
theorem topF_b (n : Int) (h : 0 ≤ n) : 0 ≤ topF n ∧ topF n ≤ 4611686018427387903 := by unfold topF; split <;> omega
theorem topF_topF (n : Int) : topF (topF n) = topF n := by unfold topF; split <;> simp [*]
def part (a b : Int) (k : Nat) : Int := match k with | 0 => 0 | 1 => topF a | _ => topF (topF a + topF b)
theorem part_s0 (a b : Int) : topF (part a b 0 + topF a) = part a b 1 := by simp [part, topF_topF]
theorem part_s1 (a b : Int) : topF (part a b 1 + topF b) = part a b 2 := rfl
theorem part_b (a b : Int) (k : Nat) (ha : 0 ≤ a) (hb : 0 ≤ b) : 0 ≤ part a b k ∧ part a b k ≤ 4611686018427387903 := by
  have h1 := topF_b a ha
  have h2 := topF_b b hb
  have h3 := topF_b (topF a + topF b) (by omega)
  unfold part
  split <;> omega
def rightB (a b : Int) : Bool := decide (a ≤ b) && decide (b ≤ 4611686018427387903)
def inB (a b n : Int) : Bool := rightB a b && (decide (a ≤ n) && decide (n < b))
def mulF (a b : Int) : Int := if 0 < topF b ∧ 4611686018427387903 / topF b < topF a then 4611686018427387903 else topF a * topF b
def subF (a b : Int) : Int := if 4611686018427387903 ≤ a then 4611686018427387903 else a - (if a ≤ b then a else b)
def addF (a b : Int) : Int := topF (topF a + topF b)
end Clk

theorem top_c (n : Int) (w : World) : Calls Try.prog 30 #[.int .u64 n] w fun e w' => e = .returned (.int .u64 (Clk.topF n)) ∧ w = w' := by
  by_cases h : n ≤ 4611686018427387903
  · rw [Clk.topF_lo h]
    go_enter Try.func30, Try.ntmps30
    go_wp2
    go_ret
    exact ⟨rfl, rfl⟩
  · rw [Clk.topF_hi (by omega)]
    go_enter Try.func30, Try.ntmps30
    go_wp2
    go_ret
    exact ⟨rfl, rfl⟩

theorem topR_c (n : Int) (w : World) : Calls Try.prog 34 #[.int .u64 n] w fun e w' => e = .returned (.int .u64 (Clk.topF n)) ∧ w = w' := by
  by_cases h : n ≤ 4611686018427387903
  · rw [Clk.topF_lo h]
    go_enter Try.func34, Try.ntmps34
    go_wp2
    go_ret
    exact ⟨rfl, rfl⟩
  · rw [Clk.topF_hi (by omega)]
    go_enter Try.func34, Try.ntmps34
    go_wp2
    go_ret
    exact ⟨rfl, rfl⟩

theorem rightR_c (a b : Int) (w : World) : Calls Try.prog 10 #[.agg #[.int .u64 a, .int .u64 b]] w (Ret (.bool (Clk.rightB a b)) w) := by
  go_enter Try.func10, Try.ntmps10
  go_wp2
  all_goals
    go_ret
    exact ⟨retB (by unfold Clk.rightB; simp; omega), (Below.refl _ _).alloc (Nat.le_refl _) _⟩

theorem rightM_c (a b : Int) (w : World) : Calls Try.prog 28 #[.agg #[.int .u64 a, .int .u64 b]] w (Ret (.bool (Clk.rightB a b)) w) := by
  go_enter Try.func28, Try.ntmps28
  go_wp2
  all_goals
    go_ret
    exact ⟨retB (by unfold Clk.rightB; simp; omega), (Below.refl _ _).alloc (Nat.le_refl _) _⟩

theorem right_c (a b : Int) (w : World) : Calls Try.prog 9 #[.agg #[.int .u64 a, .int .u64 b]] w (Ret (.bool (Clk.rightB a b)) w) := by
  go_enter Try.func9, Try.ntmps9
  go_wp2_with (go_at_call 28; refine (rightM_c _ _ _).mono ?_; rintro e w1 ⟨rfl, hb⟩)
  all_goals
    go_ret
    exact ⟨rfl, below_up ((Below.refl _ _).alloc (Nat.le_refl _) _) hb⟩

theorem inM_c (a b n : Int) (w : World) : Calls Try.prog 11 #[.agg #[.int .u64 a, .int .u64 b], .int .u64 n] w (Ret (.bool (Clk.inB a b n)) w) := by
  by_cases hr : Clk.rightB a b = true
  · have Hr := Lib.hid hr; clear hr
    go_enter Try.func11, Try.ntmps11
    go_wp2_with (go_at_call 28; refine (rightM_c _ _ _).mono ?_; rw [Hr.out]; rintro e w1 ⟨rfl, hb⟩; obtain ⟨hc, _⟩ := bcell hb)
    all_goals
      go_ret
      exact ⟨retB (by unfold Clk.inB; rw [Hr.out]; simp; omega), below_up (((Below.refl _ _).alloc (Nat.le_refl _) _).alloc (by simp) _) hb⟩
  · have hr : Clk.rightB a b = false := by simpa using hr
    have Hr := Lib.hid hr; clear hr
    go_enter Try.func11, Try.ntmps11
    go_wp2_with (go_at_call 28; refine (rightM_c _ _ _).mono ?_; rw [Hr.out]; rintro e w1 ⟨rfl, hb⟩; obtain ⟨hc, _⟩ := bcell hb)
    all_goals
      go_ret
      exact ⟨retB (by unfold Clk.inB; rw [Hr.out]; simp), below_up (((Below.refl _ _).alloc (Nat.le_refl _) _).alloc (by simp) _) hb⟩
end Go.Proofs.Ytnccbeiaohmnpaa
